/-
  Chapter 29: With, Compose and Union of the reference.
-/
import Derived.Test.YtcmooklcaeggbaaFlowU
namespace Go.Proofs.Ytcmooklcaeggbaa
open Go.RowKit
set_option linter.unusedVariables false

theorem pairsTy : ElemTy Try.prog 23 46 2 16 (.agg #[.int .i64 0, .int .i64 0]) := ⟨Try.underlying23, by kernel_rfl, rfl, by omega⟩
theorem pair_same {w : World} {b o : Nat} {l : List (Int × Int)} (h : Sl Lay.int2 w (some ⟨b, o, none⟩) l) {i : Nat} (hi : i < l.length) : w.cell? ⟨b, o + i * 2, none⟩ = some (.int .i64 l[i].1) ∧ w.cell? ⟨b, o + i * 2 + 1, none⟩ = some (.int .i64 l[i].2) ∧ b < w.heap.size := by
  obtain ⟨b', o', e, hlt, hc⟩ := h.int2_at hi
  simp only [Option.some.injEq, Addr.mk.injEq] at e
  obtain ⟨rfl, rfl, _⟩ := e
  exact ⟨hc.1, hc.2, hlt⟩

theorem box_kept {w0 wr : World} {b j : Nat} {x : Value} (h0 : w0.cell? ⟨b, j, none⟩ = some x) (hb : b < w0.heap.size) (hbw : Below w0.heap.size w0 wr) : wr.cell? ⟨b, j, none⟩ = some x := by rw [hbw.cell hb]; exact h0

set_option maxRecDepth 100000 in
set_option maxHeartbeats 1000000 in
theorem refWith_any (A : Option Addr) (c : Nat) (l : List (Int × Int)) (d : Int × Int) (w : World) (hl : l.length ≤ 100000) (hc : l.length ≤ c) (hs : Sl Lay.int2 w A l) :
    Calls Try.prog 40 #[.slice A l.length c, .agg #[.int .i64 d.1, .int .i64 d.2]] w fun e w' => (∃ v, e = .returned v ∧ FlowV w' v (withO ltP l d)) ∧ Below w.heap.size w w' := by
  have hpe := pair_eql
  have hpg := pairGuard
  go_enter Try.func40, Try.ntmps40
  go_wp2_with fail
  have q0 := cells_two_new w (.int .i64 d.1) (.int .i64 d.2) 46 0 _ rfl
  have q1 := cells_two_new w (.int .i64 d.1) (.int .i64 d.2) 46 1 _ rfl
  have hbw0 : Below w.heap.size w (w.alloc (.cells #[.int .i64 d.1, .int .i64 d.2] 46)) := bw_alloc (Below.refl _ _)
  have hs0 := hs.mono hbw0
  have hp0 : w.heap.size < (w.alloc (.cells #[.int .i64 d.1, .int .i64 d.2] 46)).heap.size := by simp
  obtain ⟨w0, hw0⟩ : ∃ w0 : World, w0 = w.alloc (.cells #[.int .i64 d.1, .int .i64 d.2] 46) := ⟨_, rfl⟩
  rw [← hw0] at q0 q1 hbw0 hs0 hp0 ⊢
  clear hw0 hs
  go_loopw [5, 6, 7] (fun v p i wr => ∃ k : Nat, k ≤ l.length ∧ i = .int .i64 k ∧ p = .bool (putTo ltP (l.take k) d).1 ∧ Own cellsInt2 2 w0.heap.size 46 wr v (putTo ltP (l.take k) d).2 ∧ Hid (∀ i (hi : i < l.length), i < k → l[i] ≠ d) ∧ Below w0.heap.size w0 wr) (fun _ _ i _ => l.length - (intOf i).toNat)
  case atStart => exact ⟨0, Nat.zero_le _, rfl, rfl, Own.nil, fun i hi h => by omega, Below.refl _ _⟩
  case round =>
    obtain ⟨k, hk, rfl, rfl, hown, HG, hbw⟩ := hrel
    have hil := (putTo_len (lt := ltP) d (l.take k)).1
    rw [List.length_take] at hil
    have r0 := box_kept q0 hp0 hbw
    have r1 := box_kept q1 hp0 hbw
    have hbb := Nat.lt_of_lt_of_le hp0 hbw.size
    by_cases hlt : k < l.length
    · obtain ⟨b, o, rfl, hb, c0, c1⟩ := (hs0.mono hbw).int2_at hlt
      by_cases he : l[k] = d
      · have HM := Lib.hid (withO_mem (lt := ltP) (l := l) (he ▸ List.getElem_mem hlt))
        have e1 : (l[k].1 == d.1 && l[k].2 == d.2) = true := by simp [he]
        clear he
        go_wp2_with fail
        refine wp_region_later (by kernel_rfl) (by kernel_rfl) ?_
        repeat (go_big_quiet_step (fail))
        refine wpQuiet_nil ?_
        rintro _ ⟨x, rfl⟩
        have hbx := bw_later (x := x) hbw
        go_wp2_with fail
        go_ret
        exact ⟨⟨_, rfl, by rw [HM.out]; exact ⟨_, c, rfl, hc, hs0.mono hbx⟩⟩, below_step hbw0 hbx⟩
      · have e1 : (l[k].1 == d.1 && l[k].2 == d.2) = false := by
          rw [← Bool.not_eq_true]; intro h; simp at h; exact he (Prod.ext h.1 h.2)
        have HE := Lib.hid he
        clear he
        have HG' : Hid (∀ i (hi : i < l.length), i < k + 1 → l[i] ≠ d) := fun i hi hik => by
          by_cases e : i = k
          · subst e; exact HE.out
          · exact HG.out i hi (by omega)
        clear HE HG
        go_wp2_with fail
        refine wp_region_later (by kernel_rfl) (by kernel_rfl) ?_
        repeat (go_big_quiet_step (fail))
        refine wpQuiet_nil ?_
        rintro _ ⟨x, rfl⟩
        have hbx := bw_later (x := x) hbw
        have hownx := hown.mono x.h
        generalize x.W = w1 at *
        clear x r0 r1 c0 c1 hown hbw hbb hb
        have r0 := box_kept q0 hp0 hbx
        have r1 := box_kept q1 hp0 hbx
        have hbb := Nat.lt_of_lt_of_le hp0 hbx.size
        have hsx := hs0.mono hbx
        obtain ⟨c0, c1, hb⟩ := pair_same hsx hlt
        cases hp : (putTo ltP (l.take k) d).1 with
        | true =>
          have HI := Lib.hid (putTo_no (lt := ltP) (d := d) hlt (fun h => by rw [hp] at h; cases h.1))
          rw [hp] at HI
          clear hp
          go_wp2_with fail
          refine wp_region_later (by kernel_rfl) (by kernel_rfl) ?_
          repeat (go_big_quiet_step (fail))
          refine wpQuiet_nil ?_
          rintro _ ⟨x, rfl⟩
          have hby := bw_later (x := x) hbx
          have howny := hownx.mono x.h
          generalize x.W = w2 at *
          clear x r0 r1 c0 c1 hownx hbx hsx hbb hb
          have r0 := box_kept q0 hp0 hby
          have r1 := box_kept q1 hp0 hby
          have hbb := Nat.lt_of_lt_of_le hp0 hby.size
          obtain ⟨c0, c1, hb⟩ := pair_same (hs0.mono hby) hlt
          go_wp2_with (at_builtin; refine wpList_push pairsTy cellsInt2_ok rfl (.tmp 35) (.tmp 40) rfl w0.heap.size _ ((putTo ltP (l.take k) d).2) rfl (howny.alloc _) (l[k]) _ _ rfl (cells_two_new _ _ _ _) (by unfold maxLen; omega) (by omega) (by have := hby.size; simp; omega) ?_; intro v1 w3 hown1 hb1)
          go_roundw
          case rel => exact ⟨k + 1, by omega, by go_num, by rw [HI.out], by rw [HI.out]; exact hown1, HG', (bw_alloc hby).trans hb1⟩
          case measure => simp [intOf]; omega
        | false =>
          cases hd : ltP d l[k] with
          | true =>
            have HI := Lib.hid (putTo_yes hlt hp hd)
            have hcc : ltP (d.1, d.2) (l[k].1, l[k].2) = true := hd
            clear hp hd
            go_wp2_with fail
            refine wp_region_later (by kernel_rfl) (by kernel_rfl) ?_
            repeat (go_big_quiet_step ((go_at_call 33; exact Calls.later (refBefore_any _ _ _ _ _))))
            refine wpQuiet_nil ?_
            rintro _ ⟨x, rfl⟩
            have hby := bw_later (x := x) hbx
            have howny := hownx.mono x.h
            generalize x.W = w2 at *
            clear x r0 r1 c0 c1 hownx hbx hsx hbb hb
            have r0 := box_kept q0 hp0 hby
            have r1 := box_kept q1 hp0 hby
            have hbb := Nat.lt_of_lt_of_le hp0 hby.size
            obtain ⟨c0, c1, hb⟩ := pair_same (hs0.mono hby) hlt
            go_wp2_with (first | (at_builtin; refine wpList_push pairsTy cellsInt2_ok rfl (.tmp 31) (.tmp 33) rfl w0.heap.size _ ((putTo ltP (l.take k) d).2) rfl (howny.alloc _) d _ _ rfl (cells_two_new _ _ _ _) (by unfold maxLen; omega) (by omega) (by have := hby.size; simp; omega) ?_; intro v1 w3 hown1 hb1; have hbw3 := (bw_alloc (o := .cells #[.int .i64 d.1, .int .i64 d.2] 46) hby).trans hb1; obtain ⟨c2, c3, hb2⟩ := pair_same (hs0.mono hbw3) hlt) | (at_builtin; refine wpList_push pairsTy cellsInt2_ok rfl (.tmp 35) (.tmp 40) rfl w0.heap.size _ ((putTo ltP (l.take k) d).2 ++ [d]) rfl (hown1.alloc _) (l[k]) _ _ rfl (cells_two_new _ _ _ _) (by unfold maxLen; rw [List.length_append]; simp; omega) (by rw [List.length_append]; simp; omega) (by have := hbw3.size; simp; omega) ?_; intro v2 w4 hown2 hb2))
            go_roundw
            case rel => exact ⟨k + 1, by omega, by go_num, by rw [HI.out], by rw [HI.out]; exact hown2, HG', (bw_alloc hbw3).trans hb2⟩
            case measure => simp [intOf]; omega
          | false =>
            have HI := Lib.hid (putTo_no (lt := ltP) (d := d) hlt (fun h => by rw [hd] at h; cases h.2))
            rw [hp] at HI
            have hcc : ltP (d.1, d.2) (l[k].1, l[k].2) = false := hd
            clear hp hd
            go_wp2_with fail
            refine wp_region_later (by kernel_rfl) (by kernel_rfl) ?_
            repeat (go_big_quiet_step ((go_at_call 33; exact Calls.later (refBefore_any _ _ _ _ _))))
            refine wpQuiet_nil ?_
            rintro _ ⟨x, rfl⟩
            have hby := bw_later (x := x) hbx
            have howny := hownx.mono x.h
            generalize x.W = w2 at *
            clear x r0 r1 c0 c1 hownx hbx hsx hbb hb
            have r0 := box_kept q0 hp0 hby
            have r1 := box_kept q1 hp0 hby
            have hbb := Nat.lt_of_lt_of_le hp0 hby.size
            obtain ⟨c0, c1, hb⟩ := pair_same (hs0.mono hby) hlt
            go_wp2_with (at_builtin; refine wpList_push pairsTy cellsInt2_ok rfl (.tmp 35) (.tmp 40) rfl w0.heap.size _ ((putTo ltP (l.take k) d).2) rfl (howny.alloc _) (l[k]) _ _ rfl (cells_two_new _ _ _ _) (by unfold maxLen; omega) (by omega) (by have := hby.size; simp; omega) ?_; intro v1 w3 hown1 hb1)
            go_roundw
            case rel => exact ⟨k + 1, by omega, by go_num, by rw [HI.out], by rw [HI.out]; exact hown1, HG', (bw_alloc hby).trans hb1⟩
            case measure => simp [intOf]; omega
    · cases hp : (putTo ltP (l.take k) d).1 with
      | true =>
        have HI := Lib.hid (withO_put hlt HG.out hp)
        clear hp
        go_wp2_with fail
        go_ret
        exact ⟨⟨_, rfl, by rw [HI.out]; exact FlowV.of_own hown⟩, below_step hbw0 hbw⟩
      | false =>
        have HI := Lib.hid (withO_end hlt HG.out hp)
        clear hp
        go_wp2_with (at_builtin; refine wpList_push pairsTy cellsInt2_ok rfl (.tmp 44) (.tmp 46) rfl w0.heap.size _ ((putTo ltP (l.take k) d).2) rfl (hown.alloc _) d _ _ rfl (cells_two_new _ _ _ _) (by unfold maxLen; omega) (by omega) (by have := hbw.size; simp; omega) ?_; intro v1 w1 hown1 hb1)
        go_ret
        exact ⟨⟨_, rfl, by rw [HI.out]; exact FlowV.of_own hown1⟩, below_step hbw0 ((bw_alloc hbw).trans hb1)⟩
end Go.Proofs.Ytcmooklcaeggbaa
