/-
  slices.Compact at edges.
-/
import Derived.Test.YthlpndgfphjlkaaEdgeA
import Derived.Test.YthlpndgfphjlkaaLibE
namespace Go.Proofs.Ythlpndgfphjlkaa
open Go.RowKit
set_option linter.unusedVariables false

/-- The first of each run of equal elements among the first m. -/
def cpTo (l : List (Int × Int)) : Nat → List (Int × Int)
  | 0 => []
  | m + 1 => if m = 0 ∨ l.getD m (0, 0) ≠ l.getD (m - 1) (0, 0) then cpTo l m ++ [l.getD m (0, 0)] else cpTo l m
def compactP (l : List (Int × Int)) : List (Int × Int) := cpTo l l.length
theorem cpTo_len (l : List (Int × Int)) : ∀ m, (cpTo l m).length ≤ m
  | 0 => Nat.le_refl _
  | m + 1 => by
    have := cpTo_len l m
    unfold cpTo
    split
    · rw [List.length_append]; simp; omega
    · omega
theorem cpTo_all (l : List (Int × Int)) : ∀ m, m ≤ l.length → (∀ i, 0 < i → i < m → l.getD i (0, 0) ≠ l.getD (i - 1) (0, 0)) → cpTo l m = l.take m
  | 0, _, _ => by simp [cpTo]
  | m + 1, hm, h => by
    have ih := cpTo_all l m (by omega) (fun i h0 hi => h i h0 (by omega))
    unfold cpTo
    rw [if_pos, ih, List.take_succ_eq_append_getElem (by omega)]
    · congr 1
      rw [List.getD_eq_getElem?_getD, List.getElem?_eq_getElem (by omega)]; rfl
    · by_cases h0 : m = 0
      · exact Or.inl h0
      · exact Or.inr (h m (by omega) (by omega))
theorem cpTo_same {l : List (Int × Int)} {m : Nat} (h0 : m ≠ 0) (h : l.getD m (0, 0) = l.getD (m - 1) (0, 0)) : cpTo l (m + 1) = cpTo l m := by
  rw [cpTo, if_neg]; intro h1; rcases h1 with h1 | h1
  · exact h0 h1
  · exact h1 h
theorem cpTo_more {l : List (Int × Int)} {m : Nat} (h : l.getD m (0, 0) ≠ l.getD (m - 1) (0, 0)) : cpTo l (m + 1) = cpTo l m ++ [l.getD m (0, 0)] := by rw [cpTo, if_pos (Or.inr h)]
theorem getD_at {l : List (Int × Int)} {i : Nat} (h : i < l.length) : l.getD i (0, 0) = l[i] := by rw [List.getD_eq_getElem?_getD, List.getElem?_eq_getElem h]; rfl
/-- A row in which the first k places hold what is kept of the first m, and those from m - 1 on are as they were. -/
structure Part (l r : List (Int × Int)) (k m : Nat) : Prop where
  len : r.length = l.length
  kept : r.take k = cpTo l m
  klen : k = (cpTo l m).length
  rest : ∀ i, m ≤ i + 1 → r.getD i (0, 0) = l.getD i (0, 0)
  le : k < m
theorem Part.same {l r : List (Int × Int)} {k m : Nat} (h : Part l r k m) (h0 : m ≠ 0) (he : l.getD m (0, 0) = l.getD (m - 1) (0, 0)) : Part l r k (m + 1) :=
  ⟨h.len, by rw [cpTo_same h0 he]; exact h.kept, by rw [cpTo_same h0 he]; exact h.klen, fun i hi => h.rest i (by omega), by have := h.le; omega⟩
theorem Part.more {l r : List (Int × Int)} {k m : Nat} (h : Part l r k m) (hm : m < l.length) (he : l.getD m (0, 0) ≠ l.getD (m - 1) (0, 0)) : Part l (r.set k (l.getD m (0, 0))) (k + 1) (m + 1) := by
  have hk : k < r.length := by rw [h.len]; have := h.le; omega
  refine ⟨by rw [List.length_set]; exact h.len, ?_, by rw [cpTo_more he, List.length_append, ← h.klen]; rfl, fun i hi => ?_, by have := h.le; omega⟩
  · rw [cpTo_more he, ← h.kept, List.take_succ_eq_append_getElem (by rw [List.length_set]; exact hk), List.getElem_set_self]
    congr 1
    rw [List.take_set]
    exact List.set_eq_of_length_le (by rw [List.length_take]; omega)
  · rw [List.getD_eq_getElem?_getD, List.getElem?_set_ne (by have := h.le; omega), ← List.getD_eq_getElem?_getD]
    exact h.rest i (by omega)
theorem Part.start {l : List (Int × Int)} {k : Nat} (hk : k < l.length) (h0 : k ≠ 0) (hd : ∀ i, 0 < i → i < k → l.getD i (0, 0) ≠ l.getD (i - 1) (0, 0)) (he : l.getD k (0, 0) = l.getD (k - 1) (0, 0)) : Part l l k (k + 1) := by
  have hc := cpTo_all l k (by omega) hd
  exact ⟨rfl, by rw [cpTo_same h0 he, hc], by rw [cpTo_same h0 he, hc, List.length_take]; omega, fun i _ => rfl, by omega⟩
theorem pair_beq {p q : Int × Int} : (p.1 == q.1 && p.2 == q.2) = decide (p = q) := by
  rw [Bool.eq_iff_iff]
  simp only [Bool.and_eq_true, beq_iff_eq, decide_eq_true_eq]
  constructor
  · rintro ⟨h1, h2⟩; exact Prod.ext h1 h2
  · rintro rfl; exact ⟨rfl, rfl⟩

theorem Own.pair_at {base : Nat} {e : TypeId} {w : World} {g n cap : Nat} {l : List (Int × Int)} (h : Own cellsInt2 2 base e w (.slice (some ⟨g, 0, none⟩) n cap) l) (hn : l.length = n) {i : Nat} (hi : i < l.length) :
    w.cell? ⟨g, i * 2, none⟩ = some (.int .i64 l[i].1) ∧ w.cell? ⟨g, i * 2 + 1, none⟩ = some (.int .i64 l[i].2) := Own.at2 (c0 := fun x : Int × Int => .int .i64 x.1) (c1 := fun x => .int .i64 x.2) h hn hi

theorem pairZero : ∀ w, (zeroValue 33).run Try.prog w = .ok (.agg #[.int .i64 0, .int .i64 0]) w := fun w => by kernel_rfl

set_option maxRecDepth 100000 in
set_option maxHeartbeats 2000000 in
theorem compactEdges_own (v : Value) (l : List (Int × Int)) (base : Nat) (w : World) (h : Own cellsInt2 2 base 33 w v l) (hl : l.length ≤ 100000) :
    Calls Try.prog 34 #[v] w fun e w' => (∃ v', e = .returned v' ∧ Own cellsInt2 2 base 33 w' v' (compactP l)) ∧ Below base w w' := by
  obtain ⟨A, cap, rfl, hcap, -⟩ := Own.sl (L := Lay.int2) h rfl (fun _ => rfl)
  by_cases h2 : l.length < 2
  · have HC : Hid (compactP l = l) := by
      show _ = _
      unfold compactP
      rw [cpTo_all l _ (Nat.le_refl _) (fun i h0 hi => by omega), List.take_length]
    go_enter Try.func34, Try.ntmps34
    go_wp2_with fail
    go_ret
    exact ⟨⟨_, rfl, by rw [HC.out]; exact h⟩, Below.refl _ _⟩
  · have h2' : 2 ≤ l.length := by omega
    clear h2
    obtain ⟨g, rfl, hbg, hgl, -⟩ := h.form (by omega)
    have hpn := pair_neq
    have hpe := pair_eql
    have hpg := pairGuard
    go_enter Try.func34, Try.ntmps34
    go_wp2_with fail
    go_loopw [3] (fun i wr => ∃ k : Nat, 1 ≤ k ∧ k ≤ l.length ∧ i = .int .i64 k ∧ Hid (∀ i, 0 < i → i < k → l.getD i (0, 0) ≠ l.getD (i - 1) (0, 0)) ∧ Own cellsInt2 2 base 33 wr (.slice (some ⟨g, 0, none⟩) l.length cap) l ∧ Below base w wr ∧ w.heap.size ≤ wr.heap.size) (fun i _ => l.length - (intOf i).toNat)
    case atStart => exact ⟨1, Nat.le_refl _, by omega, rfl, fun i h0 h1 => by omega, h, Below.refl _ _, Nat.le_refl _⟩
    case round =>
      obtain ⟨k, hk1, hkl, rfl, HD, hown, hbw, hsz⟩ := hrel
      by_cases hlt : k < l.length
      · obtain ⟨c0, c1⟩ := hown.pair_at rfl hlt
        obtain ⟨d0, d1⟩ := hown.pair_at rfl (i := k - 1) (by omega)
        have hgw : g < wr.heap.size := by omega
        cases he : decide (l[k] = l[k - 1]) with
        | false =>
          have e1 : (l[k].1 == (l[k - 1]).1 && l[k].2 == (l[k - 1]).2) = false := by rw [pair_beq, he]
          have HE := Lib.hid (of_decide_eq_false he)
          clear he
          go_wp2_with fail
          refine wp_region_later (by kernel_rfl) (by kernel_rfl) ?_
          repeat (go_big_quiet_step (fail))
          refine wpQuiet_nil ?_
          rintro _ ⟨x, rfl⟩
          go_wp2_with fail
          go_roundw
          case rel => exact ⟨k + 1, by omega, by omega, by go_num, fun i h0 h1 => by
            by_cases e : i = k
            · subst e; rw [getD_at hlt, getD_at (by omega)]; exact HE.out
            · exact HD.out i h0 (by omega), hown.later x, hbw.trans (x.h.mono (by omega)), Nat.le_trans hsz x.h.size⟩
          case measure => simp [intOf]; omega
        | true =>
          have e1 : (l[k].1 == (l[k - 1]).1 && l[k].2 == (l[k - 1]).2) = true := by rw [pair_beq, he]
          have HP := Lib.hid (Part.start hlt (by omega) HD.out (by rw [getD_at hlt, getD_at (by omega)]; exact of_decide_eq_true he))
          clear he
          have hck : ¬ cap = k := by omega
          go_wp2_with fail
          refine wp_region_later (by kernel_rfl) (by kernel_rfl) ?_
          repeat (go_big_quiet_step (fail))
          refine wpQuiet_nil ?_
          rintro _ ⟨x, rfl⟩
          go_wp2_with fail
          have hown1 := hown.later x
          have hbw1 : Below base w x.W := hbw.trans (x.h.mono (by omega))
          have hsz1 : w.heap.size ≤ x.W.heap.size := Nat.le_trans hsz x.h.size
          generalize x.W = wx at *
          clear c0 c1 d0 d1 hown hbw hsz hgw
          obtain ⟨wo, rfl⟩ : ∃ wo : World, wo = wr := ⟨_, rfl⟩
          go_loopw [3, 5] (fun a i wr => ∃ (kk j : Nat) (r : List (Int × Int)), 1 ≤ j ∧ k + j ≤ l.length ∧ a = .int .i64 kk ∧ i = .int .i64 j ∧ Part l r kk (k + j) ∧ Own cellsInt2 2 base 33 wr (.slice (some ⟨g, 0, none⟩) l.length cap) r ∧ Below base w wr ∧ w.heap.size ≤ wr.heap.size) (fun _ i _ => l.length - (intOf i).toNat)
          case atStart => exact ⟨k, 1, l, Nat.le_refl _, by omega, rfl, rfl, HP.out, hown1, hbw1, hsz1⟩
          case round =>
            obtain ⟨kk, j, r, hj1, hjl, rfl, rfl, hpart, hown, hbw, hsz⟩ := hrel
            have hgw : g < wr.heap.size := by omega
            have hkk : kk < k + j := hpart.le
            have HRL := Lib.hid hpart.len
            by_cases hlt2 : j < l.length - k
            · obtain ⟨c0, c1⟩ := hown.pair_at HRL.out (i := k + j) (by rw [HRL.out]; omega)
              obtain ⟨d0, d1⟩ := hown.pair_at HRL.out (i := k + (j - 1)) (by rw [HRL.out]; omega)
              have HC := Lib.hid (hpart.rest (k + j) (by omega))
              have HD2 := Lib.hid (hpart.rest (k + (j - 1)) (by omega))
              rw [getD_at (by rw [HRL.out]; omega)] at HC HD2
              generalize hp : r[k + j]'(by rw [HRL.out]; omega) = p at *
              generalize hq : r[k + (j - 1)]'(by rw [HRL.out]; omega) = q at *
              clear hp hq
              rw [Nat.add_mul] at c0 c1 d0 d1
              have hjj : k + j - 1 = k + (j - 1) := by omega
              have HJ := Lib.hid hjj
              clear hjj
              cases he : decide (p = q) with
              | true =>
                have e2 : (!(p.1 == q.1 && p.2 == q.2)) = false := by rw [pair_beq, he]; rfl
                have HP2 := Lib.hid (hpart.same (by omega) (by rw [HJ.out, ← HC.out, ← HD2.out]; exact of_decide_eq_true he))
                clear he
                go_wp2_with fail
                refine wp_region_later (by kernel_rfl) (by kernel_rfl) ?_
                repeat (go_big_quiet_step (fail))
                refine wpQuiet_nil ?_
                rintro _ ⟨y, rfl⟩
                go_wp2_with fail
                go_roundw
                case rel => exact ⟨kk, j + 1, r, by omega, by omega, rfl, by go_num, HP2.out, hown.later y, hbw.trans (y.h.mono (by omega)), Nat.le_trans hsz y.h.size⟩
                case measure => simp [intOf]; omega
              | false =>
                have e2 : (!(p.1 == q.1 && p.2 == q.2)) = true := by rw [pair_beq, he]; rfl
                have HP2 := Lib.hid (hpart.more (by omega) (by rw [HJ.out, ← HC.out, ← HD2.out]; exact of_decide_eq_false he))
                rw [← HC.out] at HP2
                clear he
                have hkl2 : kk < l.length := by omega
                obtain ⟨k0, k1⟩ := hown.pair_at HRL.out (i := kk) (by rw [HRL.out]; omega)
                have f0 := Own.free2 (c0 := fun x : Int × Int => .int .i64 x.1) (c1 := fun x => .int .i64 x.2) hown HRL.out (kk * 2)
                have f1 := Own.free2 (c0 := fun x : Int × Int => .int .i64 x.1) (c1 := fun x => .int .i64 x.2) hown HRL.out (kk * 2 + 1)
                go_wp2_with fail
                refine wp_region_later (by kernel_rfl) (by kernel_rfl) ?_
                repeat (go_big_quiet_step (fail))
                refine wpQuiet_nil ?_
                rintro _ ⟨y, rfl⟩
                go_wp2_with fail
                go_roundw
                case rel => exact ⟨kk + 1, j + 1, r.set kk p, by omega, by omega, by go_num, by go_num, HP2.out, Own.set2 (c0 := fun x : Int × Int => .int .i64 x.1) (c1 := fun x => .int .i64 x.2) (hown.later y) HRL.out kk p, ((hbw.trans (y.h.mono (by omega))).setCell hbg _).setCell hbg _, by have := y.h.size; simp [World.setCell]; omega⟩
                case measure => simp [intOf]; omega
            · have hkl2 : kk < l.length := by omega
              have HKJ := Lib.hid (show k + j = l.length by omega)
              obtain ⟨w', hclr, hown', hb'⟩ := Own.clear_tail edgeTy cellsInt2_ok (fun v hv => by simp [Value.cells] at hv; rcases hv with rfl | rfl <;> rfl) pairZero hown hkl2
              have hck2 : ¬ cap = kk := by omega
              go_wp2_with fail
              go_ret
              refine ⟨⟨_, rfl, ?_⟩, hbw.trans hb'⟩
              have hk2 := hpart.kept
              rw [HKJ.out] at hk2
              unfold compactP
              rw [← hk2]
              exact hown'
      · have HC : Hid (compactP l = l) := by
          show _ = _
          unfold compactP
          rw [cpTo_all l _ (Nat.le_refl _) (fun i h0 hi => HD.out i h0 (by omega)), List.take_length]
        go_wp2_with fail
        go_ret
        exact ⟨⟨_, rfl, by rw [HC.out]; exact hown⟩, hbw⟩
end Go.Proofs.Ythlpndgfphjlkaa
