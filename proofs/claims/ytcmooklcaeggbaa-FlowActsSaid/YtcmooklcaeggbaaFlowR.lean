/-
  Chapter 29: from.
-/
import Derived.Test.YtcmooklcaeggbaaFlowQ
namespace Go.Proofs.Ytcmooklcaeggbaa
open Go.RowKit
set_option linter.unusedVariables false

theorem Sl.segO {α : Type} {L : Lay α} {w : World} {A : Option Addr} {l : List α} (h : Sl L w A l) (i j : Nat) (hij : i ≤ j) (hj : j ≤ l.length) : Sl L w (A.map fun x => x.add (i * L.size)) ((l.take j).drop i) := by
  by_cases he : i < j
  · obtain ⟨b, o, _, rfl, _⟩ := h 0 l[0] (List.getElem?_eq_getElem (by omega))
    have := h.seg i j hij hj
    have e : (some (⟨b, o, none⟩ : Addr)).map (fun x => x.add (i * L.size)) = some ⟨b, o + i * L.size, none⟩ := by
      show some _ = some _
      congr 1
      unfold Addr.add
      split
      · rename_i h0; rw [h0, Nat.add_zero]
      · rfl
    rw [e]
    exact this
  · have : (l.take j).drop i = [] := by rw [List.drop_eq_nil_iff, List.length_take]; omega
    rw [this]
    exact Sl.nil

set_option maxHeartbeats 1000000 in
theorem flowFrom_any (A : Option Addr) (c : Nat) (f : List (Int × Int)) (d : Int) (w : World) (hl : f.length ≤ 100000) (hc : f.length ≤ c) (hr : Hid (Rises f)) (w0 : World) (hb00 : Below w0.heap.size w0 w) (hs0 : Sl Lay.int2 w0 A f) :
    Calls Try.prog 39 #[.slice A f.length c, .int .i64 d] w fun e w' => (∃ v, e = .returned v ∧ FlowV w0 v (withIn f d)) ∧ Below w.heap.size w w' := by
  have hs := hs0.mono hb00
  go_enter Try.func39, Try.ntmps39
  go_wp2_with fail
  have hb0 : Below w.heap.size w ((w.alloc (.cells #[.slice A f.length c] 24)).alloc (.cells #[.int .i64 d] 3)) := (by repeat (first | assumption | exact Below.refl _ _ | apply bw_alloc | apply bw_drew | apply bw_drewN | apply bw_later | apply bw_step))
  refine (sortSearch_from A c f d w.heap.size (w.heap.size + 1) _ hl hr (hs.mono hb0) (by simp) (by simp) (by simp; omega) (by simp)).mono ?_
  rintro e w1 ⟨⟨n, rfl, hn, HN⟩, hb1⟩
  have hbw1 := below_step hb0 hb1
  have p1 : w1.cell? ⟨w.heap.size, 0, none⟩ = some (.slice A f.length c) := by rw [hb1.cell (p := ⟨w.heap.size, 0, none⟩) (by simp; omega)]; simp
  have p2 : w1.cell? ⟨w.heap.size + 1, 0, none⟩ = some (.int .i64 d) := by rw [hb1.cell (p := ⟨w.heap.size + 1, 0, none⟩) (by simp)]; simp
  have hs1 : w.heap.size + 1 < w1.heap.size := by have := hb1.size; simp at this; omega
  clear hb0 hb1
  go_wp2_with fail
  go_loopw [6] (fun i wr => ∃ m : Nat, n ≤ m ∧ m ≤ f.length ∧ i = .int .i64 m ∧ Hid (∀ i (hi : i < f.length), n ≤ i → i < m → f[i].1 = d) ∧ Below w1.heap.size w1 wr) (fun i _ => f.length - (intOf i).toNat)
  case atStart => exact ⟨n, Nat.le_refl _, hn, rfl, fun i hi h1 h2 => by omega, Below.refl _ _⟩
  case round =>
    obtain ⟨m, hnm, hml, rfl, HM, hbw⟩ := hrel
    have q1 : wr.cell? ⟨w.heap.size, 0, none⟩ = some (.slice A f.length c) := by rw [hbw.cell (p := ⟨w.heap.size, 0, none⟩) (show w.heap.size < w1.heap.size by omega)]; exact p1
    have q2 : wr.cell? ⟨w.heap.size + 1, 0, none⟩ = some (.int .i64 d) := by rw [hbw.cell (p := ⟨w.heap.size + 1, 0, none⟩) hs1]; exact p2
    have hs2 : w.heap.size + 1 < wr.heap.size := Nat.lt_of_lt_of_le hs1 hbw.size
    have hs3 : w.heap.size < wr.heap.size := by omega
    have hbw2 := below_step hbw1 hbw
    by_cases hlt : m < f.length
    · have hz : decide (m < f.length) = true := by simpa using hlt
      obtain ⟨b, o, rfl, hb, c0, c1⟩ := (hs.mono hbw2).int2_at hlt
      by_cases he : f[m].1 = d
      · have e1 : (f[m].1 == d) = true := by simp [he]
        have HE := Lib.hid he
        clear he
        go_wp2_with fail
        refine wp_region_later (by kernel_rfl) (by kernel_rfl) ?_
        repeat (go_big_quiet_step (fail))
        refine wpQuiet_nil ?_
        rintro _ ⟨x, rfl⟩
        go_wp2_with fail
        go_roundw
        case rel => exact ⟨m + 1, by omega, by omega, by go_num, fun i hi h1 h2 => by
          by_cases e : i = m
          · subst e; exact HE.out
          · exact HM.out i hi h1 (by omega), below_step hbw x.h⟩
        case measure => simp [intOf]; omega
      · have e1 : (f[m].1 == d) = false := by simpa using he
        have HW := Lib.hid (withIn_seg hnm hml (fun i hi h => by have := (HN.out i hi).1 h; omega) HM.out (fun i hi h => by
          have h1 := hr.out m i hlt hi h
          have h2 := (HN.out m hlt).2 hnm
          omega))
        clear he
        have hcn : ¬ c = n := by omega
        go_wp2_with fail
        refine wp_region_later (by kernel_rfl) (by kernel_rfl) ?_
        repeat (go_big_quiet_step (fail))
        refine wpQuiet_nil ?_
        rintro _ ⟨x, rfl⟩
        go_wp2_with fail
        go_ret
        exact ⟨⟨_, rfl, ⟨_, c - n, by rw [HW.out, List.length_drop, List.length_take, Nat.min_eq_left hml]; rfl, by rw [HW.out, List.length_drop, List.length_take]; omega, by rw [HW.out]; exact Sl.seg hs0 n m hnm hml⟩⟩, below_step hbw2 x.h⟩
    · have hz : decide (m < f.length) = false := by simpa using hlt
      have HW := Lib.hid (withIn_seg hnm hml (fun i hi h => by have := (HN.out i hi).1 h; omega) HM.out (fun i hi h => by omega))
      go_wp2_with fail
      refine wp_region_later (by kernel_rfl) (by kernel_rfl) ?_
      repeat (go_big_quiet_step (fail))
      refine wpQuiet_nil ?_
      rintro _ ⟨x, rfl⟩
      go_wp2_with fail
      · go_ret
        have hnil : withIn f d = [] := by rw [HW.out, List.drop_eq_nil_iff, List.length_take]; omega
        have hmn : m - n = 0 := by omega
        exact ⟨⟨_, rfl, ⟨A, 0, by rw [hnil, hmn]; rfl, by rw [hnil]; simp, by rw [hnil]; exact Sl.nil⟩⟩, below_step hbw2 x.h⟩
      · go_ret
        exact ⟨⟨_, rfl, ⟨_, c - n, by rw [HW.out, List.length_drop, List.length_take, Nat.min_eq_left hml]; rfl, by rw [HW.out, List.length_drop, List.length_take]; omega, by rw [HW.out]; exact Sl.segO hs0 n m hnm hml⟩⟩, below_step hbw2 x.h⟩
end Go.Proofs.Ytcmooklcaeggbaa
