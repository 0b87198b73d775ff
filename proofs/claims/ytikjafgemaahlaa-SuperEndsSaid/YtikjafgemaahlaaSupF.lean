/-
  Chapter 27: the program's comparisons of nodes and edges; its checks of an edge within a function.
-/
import Derived.Test.YtikjafgemaahlaaSupE
namespace Go.Proofs.Ytikjafgemaahlaa
open Go.RowKit
set_option linter.unusedVariables false

def cmpI (a b : Int) : Int := if a < b then -1 else if b < a then 1 else 0
theorem cmpI_lt {a b : Int} (h : a < b) : cmpI a b = -1 := by simp [cmpI, h]
theorem cmpI_eq (a : Int) : cmpI a a = 0 := by simp [cmpI]
theorem cmpI_gt {a b : Int} (h : b < a) : cmpI a b = 1 := by unfold cmpI; rw [if_neg (by omega), if_pos h]
def orL : List Int → Int
  | [] => 0
  | a :: l => if a = 0 then orL l else a
theorem orL_at : ∀ {l : List Int} {k : Nat} (hk : k < l.length), (∀ i (hi : i < k) (hi2 : i < l.length), l[i] = 0) → l[k] ≠ 0 → orL l = l[k]
  | a :: l, 0, hk, h0, h1 => by unfold orL; rw [if_neg (show a ≠ 0 from h1)]; rfl
  | a :: l, k + 1, hk, h0, h1 => by
    have ha : a = 0 := h0 0 (by omega) (by simp)
    unfold orL
    rw [if_pos ha]
    exact orL_at (l := l) (k := k) (by simpa using hk) (fun i hi hi2 => by have := h0 (i + 1) (by omega) (by simp; omega); simpa using this) (by simpa using h1)
theorem orL_all : ∀ {l : List Int}, (∀ i (hi2 : i < l.length), l[i] = 0) → orL l = 0
  | [], _ => rfl
  | a :: l, h0 => by
    have ha : a = 0 := h0 0 (by simp)
    unfold orL
    rw [if_pos ha]
    exact orL_all (l := l) fun i hi => by have := h0 (i + 1) (by simp; omega); simpa using this
def cmpN (x y : Nd) : Int := orL [cmpI x.fn y.fn, cmpI x.kind y.kind, cmpI x.instr y.instr]
def cmpE (x y : Sed) : Int := orL [cmpI x.src y.src, cmpI x.dst y.dst, cmpI x.kind y.kind, cmpI x.call y.call]
theorem cmpI_or {a b : Int} {l : List Int} : orL (cmpI a b :: l) < 0 ↔ (a < b ∨ (a = b ∧ orL l < 0)) := by
  rcases Int.lt_trichotomy a b with h | h | h
  · rw [cmpI_lt h]; simp [orL, h]
  · subst h; rw [cmpI_eq]; simp [orL]
  · rw [cmpI_gt h]; simp [orL]; omega
theorem cmpN_neg {x y : Nd} (h : ltN x y = true) : cmpN x y < 0 := by
  unfold cmpN
  rw [cmpI_or, cmpI_or, cmpI_or]
  unfold ltN at h
  split at h
  · split at h
    · simp at h; simp [*]
    · simp at h; simp [*]
  · simp at h; simp [*]
theorem cmpE_neg {x y : Sed} (h : ltE x y = true) : cmpE x y < 0 := by
  unfold cmpE
  rw [cmpI_or, cmpI_or, cmpI_or, cmpI_or]
  unfold ltE at h
  split at h
  · split at h
    · split at h
      · simp at h; simp [*]
      · simp at h; simp [*]
    · simp at h; simp [*]
  · simp at h; simp [*]

set_option maxHeartbeats 400000 in
theorem cmpCompare_any (a b : Int) (w : World) :
    Calls Try.prog 32 #[.int .i64 a, .int .i64 b] w fun e w' => e = .returned (.int .i64 (cmpI a b)) ∧ w = w' := by
  rcases Int.lt_trichotomy a b with h | h | h
  · go_enter Try.func32, Try.ntmps32
    go_wp2
    go_ret
    exact ⟨by rw [cmpI_lt h]; rfl, rfl⟩
  · subst h
    go_enter Try.func32, Try.ntmps32
    go_wp2
    go_ret
    exact ⟨by rw [cmpI_eq]; rfl, rfl⟩
  · go_enter Try.func32, Try.ntmps32
    go_wp2
    go_ret
    exact ⟨by rw [cmpI_gt h]; rfl, rfl⟩

set_option maxHeartbeats 1000000 in
theorem cmpOr_any (g n c : Nat) (l : List Int) (w : World) (hn : l.length = n) (hl : l.length ≤ 1000000) (h : ∀ i (hi : i < l.length), w.cell? ⟨g, i, none⟩ = some (.int .i64 l[i])) :
    Calls Try.prog 31 #[.slice (some ⟨g, 0, none⟩) n c] w fun e w' => e = .returned (.int .i64 (orL l)) ∧ w = w' := by
  subst hn
  go_enter Try.func31, Try.ntmps31
  go_wp2_with fail
  go_loop [5, 8] (fun _ i => ∃ k : Nat, k ≤ l.length ∧ i = .int .i64 k ∧ Hid (∀ i (hi : i < k) (hi2 : i < l.length), l[i] = 0)) (fun _ i => l.length - (intOf i).toNat)
  case atStart => exact ⟨0, Nat.zero_le _, rfl, fun i hi => by omega⟩
  case round =>
    obtain ⟨k, hk, rfl, HN⟩ := hrel
    by_cases hlt : k < l.length
    · have d0 := h k hlt
      by_cases hq : l[k] = 0
      · have HE : Hid (∀ i (hi : i < k + 1) (hi2 : i < l.length), l[i] = 0) := fun i hi hi2 => by
          by_cases e : i = k
          · subst e; exact hq
          · exact HN.out i (by omega) hi2
        go_wp2_with fail
        go_round
        case rel => exact ⟨k + 1, by omega, by go_num, HE⟩
        case measure => simp [intOf]; omega
      · have HE : Hid (orL l = l[k]) := orL_at hlt HN.out hq
        have hq' : (l[k] != 0) = true := by simpa using hq
        go_wp2_with fail
        go_ret
        exact ⟨by rw [HE.out]; rfl, rfl⟩
    · have HE : Hid (orL l = 0) := orL_all fun i hi => HN.out i (by omega) hi
      go_wp2_with fail
      go_ret
      exact ⟨by rw [HE.out]; rfl, rfl⟩

theorem three_at {w : World} {g : Nat} {a b c : Int} (h0 : w.cell? ⟨g, 0, none⟩ = some (.int .i64 a)) (h1 : w.cell? ⟨g, 1, none⟩ = some (.int .i64 b)) (h2 : w.cell? ⟨g, 2, none⟩ = some (.int .i64 c)) :
    ∀ i (hi : i < [a, b, c].length), w.cell? ⟨g, i, none⟩ = some (.int .i64 [a, b, c][i])
  | 0, _ => h0
  | 1, _ => h1
  | 2, _ => h2
theorem four_at {w : World} {g : Nat} {a b c d : Int} (h0 : w.cell? ⟨g, 0, none⟩ = some (.int .i64 a)) (h1 : w.cell? ⟨g, 1, none⟩ = some (.int .i64 b)) (h2 : w.cell? ⟨g, 2, none⟩ = some (.int .i64 c)) (h3 : w.cell? ⟨g, 3, none⟩ = some (.int .i64 d)) :
    ∀ i (hi : i < [a, b, c, d].length), w.cell? ⟨g, i, none⟩ = some (.int .i64 [a, b, c, d][i])
  | 0, _ => h0
  | 1, _ => h1
  | 2, _ => h2
  | 3, _ => h3

set_option maxHeartbeats 400000 in
theorem orderNode_any (x y : Nd) (w : World) :
    Calls Try.prog 23 #[.agg #[.int .i64 x.fn, .int .i64 x.kind, .int .i64 x.instr], .agg #[.int .i64 y.fn, .int .i64 y.kind, .int .i64 y.instr]] w fun e w' => e = .returned (.int .i64 (cmpN x y)) ∧ Below w.heap.size w w' := by
  go_enter Try.func23, Try.ntmps23
  go_wp2_with fail
  refine wp_region_later_tail 15 (by kernel_rfl) (by kernel_rfl) ?_
  simp only [List.take_succ_cons, List.take_zero, List.drop_succ_cons, List.drop_zero]
  repeat (go_big_quiet_step ((go_at_call 32; exact Calls.later_same (cmpCompare_any _ _ _))))
  refine wpQuiet_nil ?_
  rintro _ ⟨z, rfl⟩
  go_wp2_with fail
  refine (cmpOr_any _ _ _ [cmpI x.fn y.fn, cmpI x.kind y.kind, cmpI x.instr y.instr] _ rfl (by simp) (three_at (by simp) (by simp) (by simp))).mono ?_
  rintro e w' ⟨rfl, rfl⟩
  go_wp2_with fail
  go_ret
  exact ⟨rfl, (by repeat (first | assumption | exact Below.refl _ _ | apply bw_alloc | apply bw_drew | apply bw_drewN | apply bw_later | apply bw_step))⟩

set_option maxHeartbeats 400000 in
theorem orderEdge_any (x y : Sed) (w : World) :
    Calls Try.prog 26 #[.agg #[.int .i64 x.src, .int .i64 x.dst, .int .i64 x.kind, .int .i64 x.call], .agg #[.int .i64 y.src, .int .i64 y.dst, .int .i64 y.kind, .int .i64 y.call]] w fun e w' => e = .returned (.int .i64 (cmpE x y)) ∧ Below w.heap.size w w' := by
  go_enter Try.func26, Try.ntmps26
  go_wp2_with fail
  refine wp_region_later_tail 20 (by kernel_rfl) (by kernel_rfl) ?_
  simp only [List.take_succ_cons, List.take_zero, List.drop_succ_cons, List.drop_zero]
  repeat (go_big_quiet_step ((go_at_call 32; exact Calls.later_same (cmpCompare_any _ _ _))))
  refine wpQuiet_nil ?_
  rintro _ ⟨z, rfl⟩
  go_wp2_with fail
  refine (cmpOr_any _ _ _ [cmpI x.src y.src, cmpI x.dst y.dst, cmpI x.kind y.kind, cmpI x.call y.call] _ rfl (by simp) (four_at (by simp) (by simp) (by simp) (by simp))).mono ?_
  rintro e w' ⟨rfl, rfl⟩
  go_wp2_with fail
  go_ret
  exact ⟨rfl, (by repeat (first | assumption | exact Below.refl _ _ | apply bw_alloc | apply bw_drew | apply bw_drewN | apply bw_later | apply bw_step))⟩

/-- The check's own 'is'. -/
theorem isLit_any (B : Nat) (A0 A1 : Option Addr) (c0 c1 : Nat) (N : List Nd) (E : List Sed) (m : Int) (i : Nat) (w : World) (hi : i < N.length) (hl : N.length ≤ 1000000) (bx : Box w B [.slice A0 N.length c0, .slice A1 E.length c1, .int .i64 m] 25) :
    Calls Try.prog 33 #[.int .i64 i, .pointer (some ⟨B, 0, none⟩)] w fun e w' => e = .returned (.bool true) ∧ w = w' := by
  have hB := bx.lt
  have x0 := bx.cell 0 rfl
  have hI : (i : Int) < (N.length : Int) := by omega
  have h0 : (0 : Int) ≤ (i : Int) := by omega
  go_enter Try.func33, Try.ntmps33
  go_wp2_with fail
  go_ret
  exact ⟨rfl, rfl⟩

set_option maxHeartbeats 1000000 in
theorem supcheck_any (A0 A1 : Option Addr) (c0 c1 : Nat) (N : List Nd) (E : List Sed) (m : Int) (i j : Nat) (w : World) (hi : i < N.length) (hj : j < N.length) (hl : N.length ≤ 1000000) :
    Calls Try.prog 25 #[.agg #[.slice A0 N.length c0, .slice A1 E.length c1, .int .i64 m], .agg #[.int .i64 i, .int .i64 j, .int .i64 1, .int .i64 (-1)]] w fun e w' => e = .returned (.int .i64 0) ∧ Below w.heap.size w w' := by
  go_enter Try.func25, Try.ntmps25
  go_wp2_with fail
  refine (isLit_any _ A0 A1 c0 c1 N E m i _ hi hl ((Box.new _ _ _).alloc _)).mono ?_
  rintro e w1 ⟨rfl, rfl⟩
  go_wp2_with fail
  refine (isLit_any _ A0 A1 c0 c1 N E m j _ hj hl ((Box.new _ _ _).alloc _)).mono ?_
  rintro e w1 ⟨rfl, rfl⟩
  go_wp2_with fail
  go_ret
  exact ⟨rfl, (by repeat (first | assumption | exact Below.refl _ _ | apply bw_alloc | apply bw_drew | apply bw_drewN | apply bw_later | apply bw_step))⟩
end Go.Proofs.Ytikjafgemaahlaa
