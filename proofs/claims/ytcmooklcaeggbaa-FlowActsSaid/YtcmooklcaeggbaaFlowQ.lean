/-
  Chapter 29: the part of an ascending list whose pairs have one In.
-/
import Derived.Test.YtcmooklcaeggbaaFlowM
namespace Go.Proofs.Ytcmooklcaeggbaa
open Go.RowKit
set_option linter.unusedVariables false

/-- A list whose first components do not fall. -/
def Rises (f : List (Int × Int)) : Prop := ∀ i j (hi : i < f.length) (hj : j < f.length), i ≤ j → f[i].1 ≤ f[j].1

set_option maxHeartbeats 400000 in
theorem fromClosure_any (A : Option Addr) (c : Nat) (f : List (Int × Int)) (d : Int) (g1 g2 : Nat) (i : Nat) (w : World) (hi : i < f.length) (hs : Sl Lay.int2 w A f) (h1 : w.cell? ⟨g1, 0, none⟩ = some (.slice A f.length c)) (h2 : w.cell? ⟨g2, 0, none⟩ = some (.int .i64 d)) (hg1 : g1 < w.heap.size) (hg2 : g2 < w.heap.size) :
    Calls Try.prog 52 #[.int .i64 i, .pointer (some ⟨g1, 0, none⟩), .pointer (some ⟨g2, 0, none⟩)] w fun e w' => e = .returned (.bool (decide (d ≤ f[i].1))) ∧ Below w.heap.size w w' := by
  obtain ⟨b, o, rfl, hb, c0, c1⟩ := hs.int2_at hi
  have HX : Hid (decide (d ≤ f[i].1) = decide (d ≤ f[i].1)) := rfl
  generalize f[i] = p at *
  go_enter Try.func52, Try.ntmps52
  go_wp2_with fail
  refine wp_region_later (by kernel_rfl) (by kernel_rfl) ?_
  repeat (go_big_quiet_step (fail))
  refine wpQuiet_nil ?_
  rintro _ ⟨x, rfl⟩
  go_wp2_with fail
  go_ret
  exact ⟨rfl, (by repeat (first | assumption | exact Below.refl _ _ | apply bw_alloc | apply bw_drew | apply bw_drewN | apply bw_later | apply bw_step))⟩

set_option maxHeartbeats 1000000 in
theorem sortSearch_from (A : Option Addr) (c : Nat) (f : List (Int × Int)) (d : Int) (g1 g2 : Nat) (w : World) (hl : f.length ≤ 100000) (hr : Hid (Rises f)) (hs : Sl Lay.int2 w A f) (h1 : w.cell? ⟨g1, 0, none⟩ = some (.slice A f.length c)) (h2 : w.cell? ⟨g2, 0, none⟩ = some (.int .i64 d)) (hg1 : g1 < w.heap.size) (hg2 : g2 < w.heap.size) :
    Calls Try.prog 51 #[.int .i64 f.length, .func (.func 52) #[] #[.pointer (some ⟨g1, 0, none⟩), .pointer (some ⟨g2, 0, none⟩)]] w fun e w' => (∃ n : Nat, e = .returned (.int .i64 n) ∧ n ≤ f.length ∧ Hid (∀ i (hi : i < f.length), (i < n → f[i].1 < d) ∧ (n ≤ i → d ≤ f[i].1))) ∧ Below w.heap.size w w' := by
  go_enter Try.func51, Try.ntmps51
  go_wp2_with fail
  go_loopw [5, 6] (fun a b wr => ∃ i j : Nat, i ≤ j ∧ j ≤ f.length ∧ a = .int .i64 i ∧ b = .int .i64 j ∧ Hid (∀ x (hx : x < f.length), (x < i → f[x].1 < d) ∧ (j ≤ x → d ≤ f[x].1)) ∧ Below w.heap.size w wr) (fun a b _ => (intOf b).toNat - (intOf a).toNat)
  case atStart => exact ⟨0, f.length, Nat.zero_le _, Nat.le_refl _, rfl, rfl, fun x hx => ⟨fun h => by omega, fun h => by omega⟩, Below.refl _ _⟩
  case round =>
    obtain ⟨i, j, hij, hjl, rfl, rfl, HI, hbw⟩ := hrel
    by_cases hlt : i < j
    · go_wp2_with fail
      obtain ⟨m, hm, hm1, hm2⟩ : ∃ m : Nat, ((i : Int) + (j : Int)) / 2 = m ∧ i ≤ m ∧ m < j := ⟨(i + j) / 2, by omega, by omega, by omega⟩
      rw [hm]
      clear hm
      refine (fromClosure_any A c f d g1 g2 m _ (by omega) (hs.mono hbw) (by rw [hbw.cell (p := ⟨g1, 0, none⟩) hg1]; exact h1) (by rw [hbw.cell (p := ⟨g2, 0, none⟩) hg2]; exact h2) (Nat.lt_of_lt_of_le hg1 hbw.size) (Nat.lt_of_lt_of_le hg2 hbw.size)).mono ?_
      rintro e w1 ⟨rfl, hb1⟩
      have hml : m < f.length := by omega
      cases hd : decide (d ≤ f[m].1) with
      | true =>
        have HD := Lib.hid (of_decide_eq_true hd)
        clear hd
        go_wp2_with fail
        go_roundw
        case rel => exact ⟨i, m, by omega, by omega, rfl, rfl, fun x hx => ⟨(HI.out x hx).1, fun h => Int.le_trans HD.out (hr.out m x hml hx h)⟩, below_step hbw hb1⟩
        case measure => simp [intOf]; omega
      | false =>
        have HD := Lib.hid (of_decide_eq_false hd)
        clear hd
        go_wp2_with fail
        go_roundw
        case rel => exact ⟨m + 1, j, by omega, by omega, by go_num, rfl, fun x hx => ⟨fun h => by
          have h5 := hr.out x m hx hml (by omega)
          have h6 := HD.out
          omega, (HI.out x hx).2⟩, below_step hbw hb1⟩
        case measure => simp [intOf]; omega
    · go_wp2_with fail
      go_ret
      exact ⟨⟨i, rfl, by omega, fun x hx => ⟨(HI.out x hx).1, fun h => (HI.out x hx).2 (by omega)⟩⟩, hbw⟩

/-- The pairs of a list with one first component. -/
def withIn (f : List (Int × Int)) (d : Int) : List (Int × Int) := f.filter fun p => p.1 == d
/-- A segment of a slice. -/
theorem Sl.seg {α : Type} {L : Lay α} {w : World} {b o : Nat} {l : List α} (h : Sl L w (some ⟨b, o, none⟩) l) (i j : Nat) (hij : i ≤ j) (hj : j ≤ l.length) : Sl L w (some ⟨b, o + i * L.size, none⟩) ((l.take j).drop i) := fun k x hx => by
  have hk : k < ((l.take j).drop i).length := (List.getElem?_eq_some_iff.1 hx).1
  rw [List.length_drop, List.length_take] at hk
  rw [List.getElem?_drop, List.getElem?_take, if_pos (by omega)] at hx
  obtain ⟨b', o', vs, e, h1, h2, h3⟩ := h (i + k) x hx
  simp only [Option.some.injEq, Addr.mk.injEq] at e
  obtain ⟨rfl, rfl, _⟩ := e
  refine ⟨b, _, vs, rfl, h1, h2, fun q v hv => ?_⟩
  have := h3 q v hv
  rw [Nat.add_mul] at this
  rw [← this]
  congr 2
  omega
theorem withIn_seg {f : List (Int × Int)} {d : Int} {n m : Nat} (hn : n ≤ m) (hm : m ≤ f.length) (h1 : ∀ i (hi : i < f.length), i < n → f[i].1 ≠ d) (h2 : ∀ i (hi : i < f.length), n ≤ i → i < m → f[i].1 = d) (h3 : ∀ i (hi : i < f.length), m ≤ i → f[i].1 ≠ d) : withIn f d = (f.take m).drop n := by
  unfold withIn
  have e : f = f.take n ++ ((f.take m).drop n ++ f.drop m) := by
    have a1 : f.take n = (f.take m).take n := by rw [List.take_take, Nat.min_eq_left hn]
    rw [a1, ← List.append_assoc, List.take_append_drop, List.take_append_drop]
  rw [show f.filter (fun p => p.1 == d) = (f.take n ++ ((f.take m).drop n ++ f.drop m)).filter (fun p => p.1 == d) by rw [← e], List.filter_append, List.filter_append]
  have f1 : (f.take n).filter (fun p => p.1 == d) = [] := by
    rw [List.filter_eq_nil_iff]
    intro p hp
    obtain ⟨i, hi, rfl⟩ := List.getElem_of_mem hp
    rw [List.length_take] at hi
    rw [List.getElem_take]
    simpa using h1 i (by omega) (by omega)
  have f3 : (f.drop m).filter (fun p => p.1 == d) = [] := by
    rw [List.filter_eq_nil_iff]
    intro p hp
    obtain ⟨i, hi, rfl⟩ := List.getElem_of_mem hp
    rw [List.length_drop] at hi
    rw [List.getElem_drop]
    simpa using h3 (m + i) (by omega) (by omega)
  have f2 : ((f.take m).drop n).filter (fun p => p.1 == d) = (f.take m).drop n := by
    rw [List.filter_eq_self]
    intro p hp
    obtain ⟨i, hi, rfl⟩ := List.getElem_of_mem hp
    rw [List.length_drop, List.length_take] at hi
    rw [List.getElem_drop, List.getElem_take]
    simpa using h2 (n + i) (by omega) (by omega) (by omega)
  rw [f1, f2, f3, List.nil_append, List.append_nil]
end Go.Proofs.Ytcmooklcaeggbaa
