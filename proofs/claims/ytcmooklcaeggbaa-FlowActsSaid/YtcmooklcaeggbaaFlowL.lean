/-
  Chapter 29: WithFact and Apply of the reference.
-/
import Derived.Test.YtcmooklcaeggbaaFlowK
namespace Go.Proofs.Ytcmooklcaeggbaa
open Go.RowKit
set_option linter.unusedVariables false

theorem withF_mem {l : List Int} {d : Int} (h : d ∈ l) : withF l d = l := if_pos h
theorem withF_put {l : List Int} {d : Int} {k : Nat} (hk : ¬ k < l.length) (h : ∀ i (hi : i < l.length), i < k → l[i] ≠ d) (hp : (insTo (l.take k) d).1 = true) : withF l d = (insTo (l.take k) d).2 := by
  rw [List.take_of_length_le (by omega)] at hp ⊢
  have : d ∉ l := fun hm => by
    obtain ⟨i, hi, e⟩ := List.getElem_of_mem hm
    exact h i hi (by omega) e
  unfold withF
  rw [if_neg this, if_pos hp]
theorem withF_end {l : List Int} {d : Int} {k : Nat} (hk : ¬ k < l.length) (h : ∀ i (hi : i < l.length), i < k → l[i] ≠ d) (hp : (insTo (l.take k) d).1 = false) : withF l d = (insTo (l.take k) d).2 ++ [d] := by
  rw [List.take_of_length_le (by omega)] at hp ⊢
  have : d ∉ l := fun hm => by
    obtain ⟨i, hi, e⟩ := List.getElem_of_mem hm
    exact h i hi (by omega) e
  unfold withF
  rw [if_neg this, if_neg (by simp [hp])]
theorem insTo_yes {l : List Int} {d : Int} {k : Nat} (hk : k < l.length) (hp : (insTo (l.take k) d).1 = false) (h : d < l[k]) : insTo (l.take (k + 1)) d = (true, ((insTo (l.take k) d).2 ++ [d]) ++ [l[k]]) := by
  rw [List.take_succ_eq_append_getElem hk, insTo_snoc]; unfold insStep; rw [if_pos ⟨hp, h⟩]
theorem insTo_no {l : List Int} {d : Int} {k : Nat} (hk : k < l.length) (h : ¬ ((insTo (l.take k) d).1 = false ∧ d < l[k])) : insTo (l.take (k + 1)) d = ((insTo (l.take k) d).1, (insTo (l.take k) d).2 ++ [l[k]]) := by
  rw [List.take_succ_eq_append_getElem hk, insTo_snoc]; unfold insStep; rw [if_neg h]

theorem int_same {w : World} {b o : Nat} {l : List Int} (h : Sl Lay.int w (some ⟨b, o, none⟩) l) {i : Nat} (hi : i < l.length) : w.cell? ⟨b, o + i, none⟩ = some (.int .i64 l[i]) := by
  obtain ⟨b', o', e, _, hc⟩ := h.int_at hi
  simp only [Option.some.injEq, Addr.mk.injEq] at e
  obtain ⟨rfl, rfl, _⟩ := e
  exact hc

set_option maxHeartbeats 1000000 in
theorem refWithFact_any (A : Option Addr) (c : Nat) (l : List Int) (d : Int) (w : World) (hl : l.length ≤ 100000) (hc : l.length ≤ c) (hs : Sl Lay.int w A l) :
    Calls Try.prog 37 #[.slice A l.length c, .int .i64 d] w fun e w' => (∃ v, e = .returned v ∧ IntsV w' v (withF l d)) ∧ Below w.heap.size w w' := by
  go_enter Try.func37, Try.ntmps37
  go_wp2
  go_loopw [5, 6, 7] (fun v p i wr => ∃ k : Nat, k ≤ l.length ∧ i = .int .i64 k ∧ p = .bool (insTo (l.take k) d).1 ∧ Own cellsInt 1 w.heap.size 3 wr v (insTo (l.take k) d).2 ∧ Hid (∀ i (hi : i < l.length), i < k → l[i] ≠ d) ∧ Below w.heap.size w wr) (fun _ _ i _ => l.length - (intOf i).toNat)
  case atStart => exact ⟨0, Nat.zero_le _, rfl, rfl, Own.nil, fun i hi h => by omega, Below.refl _ _⟩
  case round =>
    obtain ⟨k, hk, rfl, rfl, hown, HG, hbw⟩ := hrel
    have hil := (insTo_len d (l.take k)).1
    rw [List.length_take] at hil
    by_cases hlt : k < l.length
    · obtain ⟨b, o, rfl, hb, c0⟩ := (hs.mono hbw).int_at hlt
      by_cases he : l[k] = d
      · have HM := Lib.hid (withF_mem (l := l) (he ▸ List.getElem_mem hlt))
        have e1 : (l[k] == d) = true := by simp [he]
        clear he
        go_wp2
        go_ret
        exact ⟨⟨_, rfl, by rw [HM.out]; exact ⟨_, c, rfl, hc, hs.mono hbw⟩⟩, hbw⟩
      · have e1 : (l[k] == d) = false := by simpa using he
        have HE := Lib.hid he
        clear he
        have HG' : Hid (∀ i (hi : i < l.length), i < k + 1 → l[i] ≠ d) := fun i hi hik => by
          by_cases e : i = k
          · subst e; exact HE.out
          · exact HG.out i hi (by omega)
        clear HE
        cases hp : (insTo (l.take k) d).1 with
        | true =>
          have HI := Lib.hid (insTo_no (d := d) hlt (fun h => by rw [hp] at h; cases h.1))
          rw [hp] at HI
          clear hp
          go_wp2_with (at_builtin; refine wpList_push intTy cellsInt_ok rfl (.tmp 35) (.tmp 40) rfl w.heap.size _ ((insTo (l.take k) d).2) rfl (hown.alloc _) (l[k]) _ _ rfl (cells_one_new _ _ _) (by unfold maxLen; omega) (by omega) (by have := hbw.size; simp; omega) ?_; intro v1 w1 hown1 hb1)
          go_roundw
          case rel => exact ⟨k + 1, by omega, by go_num, by rw [HI.out], by rw [HI.out]; exact hown1, HG', (bw_alloc hbw).trans hb1⟩
          case measure => simp [intOf]; omega
        | false =>
          by_cases hd : d < l[k]
          · have HI := Lib.hid (insTo_yes hlt hp hd)
            clear hp
            go_wp2_with (first | (at_builtin; refine wpList_push intTy cellsInt_ok rfl (.tmp 31) (.tmp 33) rfl w.heap.size _ ((insTo (l.take k) d).2) rfl (hown.alloc _) (d) _ _ rfl (cells_one_new _ _ _) (by unfold maxLen; omega) (by omega) (by have := hbw.size; simp; omega) ?_; intro v1 w1 hown1 hb1; have hbw1 := (bw_alloc (o := .cells #[.int .i64 d] 3) hbw).trans hb1; have c1 := int_same (hs.mono hbw1) hlt) | (at_builtin; refine wpList_push intTy cellsInt_ok rfl (.tmp 35) (.tmp 40) rfl w.heap.size _ ((insTo (l.take k) d).2 ++ [d]) rfl (hown1.alloc _) (l[k]) _ _ rfl (cells_one_new _ _ _) (by unfold maxLen; rw [List.length_append]; simp; omega) (by rw [List.length_append]; simp; omega) (by have := hbw1.size; simp; omega) ?_; intro v2 w2 hown2 hb2))
            go_roundw
            case rel => exact ⟨k + 1, by omega, by go_num, by rw [HI.out], by rw [HI.out]; exact hown2, HG', (bw_alloc hbw1).trans hb2⟩
            case measure => simp [intOf]; omega
          · have HI := Lib.hid (insTo_no (d := d) hlt (fun h => hd h.2))
            rw [hp] at HI
            clear hp
            go_wp2_with (at_builtin; refine wpList_push intTy cellsInt_ok rfl (.tmp 35) (.tmp 40) rfl w.heap.size _ ((insTo (l.take k) d).2) rfl (hown.alloc _) (l[k]) _ _ rfl (cells_one_new _ _ _) (by unfold maxLen; omega) (by omega) (by have := hbw.size; simp; omega) ?_; intro v1 w1 hown1 hb1)
            go_roundw
            case rel => exact ⟨k + 1, by omega, by go_num, by rw [HI.out], by rw [HI.out]; exact hown1, HG', (bw_alloc hbw).trans hb1⟩
            case measure => simp [intOf]; omega
    · cases hp : (insTo (l.take k) d).1 with
      | true =>
        have HI := Lib.hid (withF_put hlt HG.out hp)
        clear hp
        go_wp2_with fail
        go_ret
        exact ⟨⟨_, rfl, by rw [HI.out]; exact IntsV.of_own hown⟩, hbw⟩
      | false =>
        have HI := Lib.hid (withF_end hlt HG.out hp)
        clear hp
        go_wp2_with (at_builtin; refine wpList_push intTy cellsInt_ok rfl (.tmp 44) (.tmp 46) rfl w.heap.size _ ((insTo (l.take k) d).2) rfl (hown.alloc _) (d) _ _ rfl (cells_one_new _ _ _) (by unfold maxLen; omega) (by omega) (by have := hbw.size; simp; omega) ?_; intro v1 w1 hown1 hb1)
        go_ret
        exact ⟨⟨_, rfl, by rw [HI.out]; exact IntsV.of_own hown1⟩, (bw_alloc hbw).trans hb1⟩

/-! ### Apply -/
/-- The second facts of the pairs that apply. -/
def applies (facts : List Int) (p : Int × Int) : Bool := p.2 != 0 && (p.1 == 0 || hasB facts p.1)
def refOut (facts : List Int) (f : List (Int × Int)) : List Int := f.foldl (fun acc p => if applies facts p then withF acc p.2 else acc) []
theorem refOut_snoc (facts : List Int) (f : List (Int × Int)) (p : Int × Int) : refOut facts (f ++ [p]) = if applies facts p then withF (refOut facts f) p.2 else refOut facts f := by unfold refOut; rw [List.foldl_append]; rfl
theorem refOut_len (facts : List Int) (f : List (Int × Int)) : ∀ k, (refOut facts (f.take k)).length ≤ k
  | 0 => by simp [refOut]
  | k + 1 => by
    have ih := refOut_len facts f k
    rcases Nat.lt_or_ge k f.length with hk | hk
    · rw [List.take_succ_eq_append_getElem hk, refOut_snoc]
      split
      · have := withF_len (refOut facts (f.take k)) f[k].2; omega
      · omega
    · rw [List.take_of_length_le (by omega)]; rw [List.take_of_length_le (by omega)] at ih; omega
end Go.Proofs.Ytcmooklcaeggbaa
