/-
  Chapter 27: the order of nodes and edges, and searching the nodes and edges of a supergraph.
-/
import Derived.Test.YtikjafgemaahlaaSupTy
import Derived.Test.YtikjafgemaahlaaReg
import Derived.Test.YtikjafgemaahlaaBox
namespace Go.Proofs.Ytikjafgemaahlaa
open Go.RowKit
set_option linter.unusedVariables false

theorem Nd.ext {a b : Nd} (h0 : a.fn = b.fn) (h1 : a.kind = b.kind) (h2 : a.instr = b.instr) : a = b := by cases a; cases b; simp_all
theorem Sed.ext {a b : Sed} (h0 : a.src = b.src) (h1 : a.dst = b.dst) (h2 : a.kind = b.kind) (h3 : a.call = b.call) : a = b := by cases a; cases b; simp_all
def ltN (x y : Nd) : Bool := if x.fn = y.fn then (if x.kind = y.kind then decide (x.instr < y.instr) else decide (x.kind < y.kind)) else decide (x.fn < y.fn)
def ltE (x y : Sed) : Bool := if x.src = y.src then (if x.dst = y.dst then (if x.kind = y.kind then decide (x.call < y.call) else decide (x.kind < y.kind)) else decide (x.dst < y.dst)) else decide (x.src < y.src)

theorem less_any (x y : Nd) (w : World) :
    Calls Try.prog 19 #[.agg #[.int .i64 x.fn, .int .i64 x.kind, .int .i64 x.instr], .agg #[.int .i64 y.fn, .int .i64 y.kind, .int .i64 y.instr]] w fun e w' => e = .returned (.bool (ltN x y)) ∧ Below w.heap.size w w' := by
  unfold ltN
  by_cases h0 : x.fn = y.fn
  · rw [if_pos h0]
    by_cases h1 : x.kind = y.kind
    · rw [if_pos h1]
      go_enter Try.func19, Try.ntmps19
      go_wp2
      go_ret
      exact ⟨rfl, (by repeat (first | assumption | exact Below.refl _ _ | apply bw_alloc | apply bw_drew | apply bw_drewN | apply bw_later | apply bw_step))⟩
    · rw [if_neg h1]
      go_enter Try.func19, Try.ntmps19
      go_wp2
      go_ret
      exact ⟨rfl, (by repeat (first | assumption | exact Below.refl _ _ | apply bw_alloc | apply bw_drew | apply bw_drewN | apply bw_later | apply bw_step))⟩
  · rw [if_neg h0]
    go_enter Try.func19, Try.ntmps19
    go_wp2
    go_ret
    exact ⟨rfl, (by repeat (first | assumption | exact Below.refl _ _ | apply bw_alloc | apply bw_drew | apply bw_drewN | apply bw_later | apply bw_step))⟩
theorem lessEdge_any (x y : Sed) (w : World) :
    Calls Try.prog 12 #[.agg #[.int .i64 x.src, .int .i64 x.dst, .int .i64 x.kind, .int .i64 x.call], .agg #[.int .i64 y.src, .int .i64 y.dst, .int .i64 y.kind, .int .i64 y.call]] w fun e w' => e = .returned (.bool (ltE x y)) ∧ Below w.heap.size w w' := by
  unfold ltE
  by_cases h0 : x.src = y.src
  · rw [if_pos h0]
    by_cases h1 : x.dst = y.dst
    · rw [if_pos h1]
      by_cases h2 : x.kind = y.kind
      · rw [if_pos h2]
        go_enter Try.func12, Try.ntmps12
        go_wp2
        go_ret
        exact ⟨rfl, (by repeat (first | assumption | exact Below.refl _ _ | apply bw_alloc | apply bw_drew | apply bw_drewN | apply bw_later | apply bw_step))⟩
      · rw [if_neg h2]
        go_enter Try.func12, Try.ntmps12
        go_wp2
        go_ret
        exact ⟨rfl, (by repeat (first | assumption | exact Below.refl _ _ | apply bw_alloc | apply bw_drew | apply bw_drewN | apply bw_later | apply bw_step))⟩
    · rw [if_neg h1]
      go_enter Try.func12, Try.ntmps12
      go_wp2
      go_ret
      exact ⟨rfl, (by repeat (first | assumption | exact Below.refl _ _ | apply bw_alloc | apply bw_drew | apply bw_drewN | apply bw_later | apply bw_step))⟩
  · rw [if_neg h0]
    go_enter Try.func12, Try.ntmps12
    go_wp2
    go_ret
    exact ⟨rfl, (by repeat (first | assumption | exact Below.refl _ _ | apply bw_alloc | apply bw_drew | apply bw_drewN | apply bw_later | apply bw_step))⟩

/-- The index of the first element of which p holds, or -1. -/
def idxI {α : Type} (p : α → Bool) (l : List α) : Int := match l.findIdx? p with
  | some i => i
  | none => -1
theorem findIdx?_at {α : Type} {p : α → Bool} {l : List α} {k : Nat} (hk : k < l.length) (hno : ∀ i (hi : i < k), p (l[i]'(by omega)) = false) (hy : p l[k] = true) : l.findIdx? p = some k := by
  rw [List.findIdx?_eq_some_iff_getElem]
  exact ⟨hk, hy, fun j hj => by simpa using hno j hj⟩
theorem idxI_at {α : Type} {p : α → Bool} {l : List α} {k : Nat} (hk : k < l.length) (hno : ∀ i (hi : i < k), p (l[i]'(by omega)) = false) (hy : p l[k] = true) : idxI p l = k := by
  unfold idxI; rw [findIdx?_at hk hno hy]
theorem idxI_none {α : Type} {p : α → Bool} {l : List α} (hno : ∀ i (hi : i < l.length), p l[i] = false) : idxI p l = -1 := by
  unfold idxI
  have : l.findIdx? p = none := by
    rw [List.findIdx?_eq_none_iff]
    intro x hx
    obtain ⟨i, hi, rfl⟩ := List.getElem_of_mem hx
    exact hno i hi
  rw [this]
theorem idxI_ge {α : Type} (p : α → Bool) (l : List α) : -1 ≤ idxI p l ∧ idxI p l < l.length := by
  unfold idxI
  cases h : l.findIdx? p with
  | none => simp; omega
  | some i =>
    have := (List.findIdx?_eq_some_iff_getElem.1 h).1
    simp; omega
def isKind (f k : Int) (x : Nd) : Bool := decide (x.fn = f) && decide (x.kind = k)
theorem isKind_ff {f k : Int} {x : Nd} (h : isKind f k x = false) (hf : x.fn = f) : x.kind ≠ k := by simp [isKind] at h; exact h hf

set_option maxHeartbeats 1000000 in
theorem kind_any (A0 A1 : Option Addr) (c0 c1 : Nat) (N : List Nd) (E : List Sed) (m f k : Int) (w : World) (hl : N.length ≤ 1000000) (hs : Sl Lay.nd w A0 N) :
    Calls Try.prog 30 #[.agg #[.slice A0 N.length c0, .slice A1 E.length c1, .int .i64 m], .int .i64 f, .int .i64 k] w fun e w' => e = .returned (.int .i64 (idxI (isKind f k) N)) ∧ Below w.heap.size w w' := by
  have hb0 : Below w.heap.size w (w.alloc (.cells #[.slice A0 N.length c0, .slice A1 E.length c1, .int .i64 m] 25)) := (by repeat (first | assumption | exact Below.refl _ _ | apply bw_alloc | apply bw_drew | apply bw_drewN | apply bw_later | apply bw_step))
  go_enter Try.func30, Try.ntmps30
  go_wp2_with fail
  go_loop [7] (fun i => ∃ j : Nat, j ≤ N.length ∧ i = .int .i64 j ∧ Hid (∀ i (hi : i < j) (hi2 : i < N.length), isKind f k N[i] = false)) (fun i => N.length - (intOf i).toNat)
  case atStart => exact ⟨0, Nat.zero_le _, rfl, fun i hi => by omega⟩
  case round =>
    obtain ⟨j, hj, rfl, HN⟩ := hrel
    by_cases hlt : j < N.length
    · obtain ⟨b, o, rfl, hb, d0, d1, d2⟩ := (hs.mono hb0).nd_at hlt
      cases hq : isKind f k N[j] with
      | true =>
        have HE := Lib.hid (idxI_at hlt (fun i hi => HN.out i hi (by omega)) hq)
        simp only [isKind, Bool.and_eq_true, decide_eq_true_eq] at hq
        obtain ⟨q1, q2⟩ := hq
        go_wp2_with fail
        go_ret
        exact ⟨by rw [HE.out]; rfl, hb0⟩
      | false =>
        have HE : Hid (∀ i (hi : i < j + 1) (hi2 : i < N.length), isKind f k N[i] = false) := fun i hi hi2 => by
          by_cases e : i = j
          · subst e; exact hq
          · exact HN.out i (by omega) hi2
        by_cases q1 : N[j].fn = f
        · have q2 := isKind_ff hq q1
          clear hq
          go_wp2_with fail
          go_round
          case rel => exact ⟨j + 1, by omega, by go_num, HE⟩
          case measure => simp [intOf]; omega
        · clear hq
          go_wp2_with fail
          go_round
          case rel => exact ⟨j + 1, by omega, by go_num, HE⟩
          case measure => simp [intOf]; omega
    · have HE := Lib.hid (idxI_none (p := isKind f k) (l := N) (fun i hi => HN.out i (by omega) hi))
      go_wp2_with fail
      go_ret
      exact ⟨by rw [HE.out]; rfl, hb0⟩

theorem refStart_any (A0 A1 : Option Addr) (c0 c1 : Nat) (N : List Nd) (E : List Sed) (m f : Int) (w : World) (hl : N.length ≤ 1000000) (hs : Sl Lay.nd w A0 N) :
    Calls Try.prog 21 #[.agg #[.slice A0 N.length c0, .slice A1 E.length c1, .int .i64 m], .int .i64 f] w fun e w' => e = .returned (.int .i64 (idxI (isKind f 1) N)) ∧ Below w.heap.size w w' := by
  have hb0 : Below w.heap.size w (w.alloc (.cells #[.slice A0 N.length c0, .slice A1 E.length c1, .int .i64 m] 25)) := (by repeat (first | assumption | exact Below.refl _ _ | apply bw_alloc | apply bw_drew | apply bw_drewN | apply bw_later | apply bw_step))
  go_enter Try.func21, Try.ntmps21
  go_wp2_with fail
  refine (kind_any A0 A1 c0 c1 N E m f 1 _ hl (hs.mono hb0)).mono ?_
  rintro e w1 ⟨rfl, hb1⟩
  go_wp2_with fail
  go_ret
  exact ⟨rfl, below_step hb0 hb1⟩
theorem refExit_any (A0 A1 : Option Addr) (c0 c1 : Nat) (N : List Nd) (E : List Sed) (m f : Int) (w : World) (hl : N.length ≤ 1000000) (hs : Sl Lay.nd w A0 N) :
    Calls Try.prog 20 #[.agg #[.slice A0 N.length c0, .slice A1 E.length c1, .int .i64 m], .int .i64 f] w fun e w' => e = .returned (.tuple #[.int .i64 (idxI (isKind f 3) N), .int .i64 (idxI (isKind f 4) N)]) ∧ Below w.heap.size w w' := by
  have hb0 : Below w.heap.size w (w.alloc (.cells #[.slice A0 N.length c0, .slice A1 E.length c1, .int .i64 m] 25)) := (by repeat (first | assumption | exact Below.refl _ _ | apply bw_alloc | apply bw_drew | apply bw_drewN | apply bw_later | apply bw_step))
  go_enter Try.func20, Try.ntmps20
  go_wp2_with fail
  refine wp_region_later (by kernel_rfl) (by kernel_rfl) ?_
  repeat (go_big_quiet_step ((go_at_call 30; exact Calls.later (kind_any A0 A1 c0 c1 N E m f _ _ hl ((hs.mono hb0).later _)))))
  refine wpQuiet_nil ?_
  rintro _ ⟨x, rfl⟩
  go_wp2_with fail
  go_ret2
  exact ⟨rfl, below_step hb0 x.h⟩
end Go.Proofs.Ytikjafgemaahlaa
