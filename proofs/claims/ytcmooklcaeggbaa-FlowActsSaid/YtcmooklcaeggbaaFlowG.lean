/-
  Contracts of chapter 29: Make of the reference, and what Make returns.
-/
import Derived.Test.YtcmooklcaeggbaaFlowE
namespace Go.Proofs.Ytcmooklcaeggbaa
open Go.RowKit
set_option linter.unusedVariables false

/-- The facts below m other than Zero with a property. -/
def pickTo (p : Nat → Bool) (m : Nat) : List Nat := (List.range m).filter fun d => decide (0 < d) && p d
theorem pickTo_yes {p : Nat → Bool} {m : Nat} (h0 : 0 < m) (h : p m = true) : pickTo p (m + 1) = pickTo p m ++ [m] := by
  unfold pickTo; rw [List.range_succ, List.filter_append]; simp [h, h0]
theorem pickTo_no {p : Nat → Bool} {m : Nat} (h : p m = false) : pickTo p (m + 1) = pickTo p m := by
  unfold pickTo; rw [List.range_succ, List.filter_append]; simp [h]
theorem pickTo_one (p : Nat → Bool) : pickTo p 1 = [] := rfl
theorem pickTo_len (p : Nat → Bool) (m : Nat) : (pickTo p m).length ≤ m := by
  unfold pickTo; exact Nat.le_trans (List.length_filter_le _ _) (by simp)
def genTo (gen : List Int) (m : Nat) : List (Int × Int) := (0, 0) :: (pickTo (fun d => hasB gen d) m).map fun (d : Nat) => (0, (d : Int))
def keepTo (kill : List Int) (m : Nat) : List (Int × Int) := (pickTo (fun d => !hasB kill d) m).map fun (d : Nat) => ((d : Int), (d : Int))
def makeL (n : Nat) (gen kill : List Int) : List (Int × Int) := genTo gen n ++ keepTo kill n
theorem genTo_len (gen : List Int) (m : Nat) : (genTo gen m).length ≤ m + 1 := by
  unfold genTo; rw [List.length_cons, List.length_map]; have := pickTo_len (fun d => hasB gen d) m; omega
theorem keepTo_len (kill : List Int) (m : Nat) : (keepTo kill m).length ≤ m := by
  unfold keepTo; rw [List.length_map]; exact pickTo_len _ m
theorem genTo_yes {gen : List Int} {m : Nat} (h0 : 0 < m) (h : hasB gen m = true) : genTo gen (m + 1) = genTo gen m ++ [(0, (m : Int))] := by unfold genTo; rw [pickTo_yes h0 h]; simp
theorem genTo_no {gen : List Int} {m : Nat} (h : hasB gen m = false) : genTo gen (m + 1) = genTo gen m := by unfold genTo; rw [pickTo_no h]
theorem keepTo_yes {kill : List Int} {m : Nat} (h0 : 0 < m) (h : hasB kill m = false) : keepTo kill (m + 1) = keepTo kill m ++ [((m : Int), (m : Int))] := by unfold keepTo; rw [pickTo_yes h0 (by simp [h])]; simp
theorem keepTo_no {kill : List Int} {m : Nat} (h : hasB kill m = true) : keepTo kill (m + 1) = keepTo kill m := by unfold keepTo; rw [pickTo_no (by simp [h])]

/-- Whether Make returns an error. -/
def makeBad (n : Int) (gen kill : List Int) : Prop := n < 1 ∨ 1024 < n ∨ properB gen n = false ∨ properB kill n = false
def MakeR (n : Int) (gen kill : List Int) (e : Ending) (w' : World) : Prop :=
  (makeBad n gen kill → e = .returned (.tuple #[.slice none 0 0, .int .i64 4])) ∧ (¬ makeBad n gen kill → ∃ v, e = .returned (.tuple #[v, .int .i64 0]) ∧ FlowV w' v (makeL n.toNat gen kill))
theorem MakeR.bad {n : Int} {gen kill : List Int} {w' : World} (h : makeBad n gen kill) : MakeR n gen kill (.returned (.tuple #[.slice none 0 0, .int .i64 4])) w' := ⟨fun _ => rfl, fun h2 => absurd h h2⟩
theorem MakeR.good {n : Int} {gen kill : List Int} {w' : World} {v : Value} (h1 : 1 ≤ n) (h2 : n ≤ 1024) (h3 : properB gen n = true) (h4 : properB kill n = true) (hv : FlowV w' v (makeL n.toNat gen kill)) : MakeR n gen kill (.returned (.tuple #[v, .int .i64 0])) w' :=
  ⟨fun h => by rcases h with h | h | h | h <;> first | omega | (rw [h3] at h; cases h) | (rw [h4] at h; cases h), fun _ => ⟨v, rfl, hv⟩⟩

set_option maxHeartbeats 1000000 in
theorem refMake_any (A B : Option Addr) (cA cB : Nat) (n : Int) (gen kill : List Int) (w : World) (hg : Sl Lay.int w A gen) (hk : Sl Lay.int w B kill) (hlg : gen.length ≤ 9223372036854775807) (hlk : kill.length ≤ 9223372036854775807) :
    Calls Try.prog 10 #[.int .i64 n, .slice A gen.length cA, .slice B kill.length cB] w fun e w' => MakeR n gen kill e w' ∧ Below w.heap.size w w' := by
  by_cases h1 : n < 1
  · go_enter Try.func10, Try.ntmps10
    go_wp2
    go_ret2
    exact ⟨MakeR.bad (Or.inl h1), (by repeat (first | assumption | exact Below.refl _ _ | apply bw_alloc | apply bw_drew | apply bw_drewN | apply bw_later | apply bw_step))⟩
  by_cases h2 : 1024 < n
  · go_enter Try.func10, Try.ntmps10
    go_wp2
    go_ret2
    exact ⟨MakeR.bad (Or.inr (Or.inl h2)), (by repeat (first | assumption | exact Below.refl _ _ | apply bw_alloc | apply bw_drew | apply bw_drewN | apply bw_later | apply bw_step))⟩
  have h1' : 1 ≤ n := by omega
  have h2' : n ≤ 1024 := by omega
  cases h3 : properB gen n with
  | false =>
    have H3 := Lib.hid h3
    clear h3
    go_enter Try.func10, Try.ntmps10
    go_wp2_with fail
    refine (refProper_any A cA gen n _ hlg hg).mono ?_
    rintro e w' ⟨rfl, rfl⟩
    rw [H3.out]
    go_wp2_with fail
    go_ret2
    exact ⟨MakeR.bad (Or.inr (Or.inr (Or.inl H3.out))), (by repeat (first | assumption | exact Below.refl _ _ | apply bw_alloc | apply bw_drew | apply bw_drewN | apply bw_later | apply bw_step))⟩
  | true =>
    have H3 := Lib.hid h3
    clear h3
    cases h4 : properB kill n with
    | false =>
      have H4 := Lib.hid h4
      clear h4
      go_enter Try.func10, Try.ntmps10
      go_wp2_with fail
      refine (refProper_any A cA gen n _ hlg hg).mono ?_
      rintro e w' ⟨rfl, rfl⟩
      rw [H3.out]
      go_wp2_with fail
      refine (refProper_any B cB kill n _ hlk hk).mono ?_
      rintro e w' ⟨rfl, rfl⟩
      rw [H4.out]
      go_wp2_with fail
      go_ret2
      exact ⟨MakeR.bad (Or.inr (Or.inr (Or.inr H4.out))), (by repeat (first | assumption | exact Below.refl _ _ | apply bw_alloc | apply bw_drew | apply bw_drewN | apply bw_later | apply bw_step))⟩
    | true =>
      have H4 := Lib.hid h4
      clear h4
      obtain ⟨m, rfl⟩ := Int.eq_ofNat_of_zero_le (show 0 ≤ n by omega)
      have m1 : 1 ≤ m := by omega
      have m2 : m ≤ 1024 := by omega
      clear h1 h2
      go_enter Try.func10, Try.ntmps10
      go_wp2_with fail
      refine (refProper_any A cA gen m _ hlg hg).mono ?_
      rintro e w' ⟨rfl, rfl⟩
      rw [H3.out]
      go_wp2_with fail
      refine (refProper_any B cB kill m _ hlk hk).mono ?_
      rintro e w' ⟨rfl, rfl⟩
      rw [H4.out]
      go_wp2_with fail
      go_loopw [8, 9] (fun v i wr => ∃ k : Nat, 1 ≤ k ∧ k ≤ m ∧ i = .int .i64 k ∧ Own cellsInt2 2 w.heap.size 46 wr v (genTo gen k) ∧ Below w.heap.size w wr) (fun _ i _ => m - (intOf i).toNat)
      case atStart => exact ⟨1, by omega, by omega, rfl, Own.lit (cells := cellsInt2) (size := 2) w #[.int .i64 0, .int .i64 0] [(0, 0)] (Nat.le_refl _) (by simp [maxLen]) rfl rfl, (by repeat (first | assumption | exact Below.refl _ _ | apply bw_alloc | apply bw_drew | apply bw_drewN | apply bw_later | apply bw_step))⟩
      case round =>
        obtain ⟨k, hk1, hkm, rfl, hown, hbw⟩ := hrel
        have hlen := genTo_len gen k
        by_cases hlt : k < m
        · cases hh : hasB gen k with
          | true =>
            have HS := Lib.hid (genTo_yes hk1 hh)
            have HH := Lib.hid hh
            clear hh
            go_wp2_with fail
            refine (refHas_any A cA gen k _ hlg (hg.mono hbw)).mono ?_
            rintro e w' ⟨rfl, rfl⟩
            rw [HH.out]
            go_wp2_with (at_builtin; refine wpList_push pairTy cellsInt2_ok rfl (.tmp 39) (.tmp 42) rfl w.heap.size _ (genTo gen k) rfl (hown.alloc _) (0, (k : Int)) _ _ rfl (cells_two_new _ _ _ _) (by unfold maxLen; omega) (by omega) (by have := hbw.size; simp; omega) ?_; intro v1 w1 hown1 hb1)
            go_roundw
            case rel => exact ⟨k + 1, by omega, by omega, by go_num, by rw [HS.out]; exact hown1, (bw_alloc hbw).trans hb1⟩
            case measure => simp [intOf]; omega
          | false =>
            have HS := Lib.hid (genTo_no hh)
            have HH := Lib.hid hh
            clear hh
            go_wp2_with fail
            refine (refHas_any A cA gen k _ hlg (hg.mono hbw)).mono ?_
            rintro e w' ⟨rfl, rfl⟩
            rw [HH.out]
            go_wp2_with fail
            go_roundw
            case rel => exact ⟨k + 1, by omega, by omega, by go_num, by rw [HS.out]; exact hown, hbw⟩
            case measure => simp [intOf]; omega
        · have HK := Lib.hid (show k = m by omega)
          rw [HK.out] at hown
          clear hlen
          go_wp2_with fail
          obtain ⟨wo, rfl⟩ : ∃ wo : World, wo = wr := ⟨_, rfl⟩
          go_loopw [8, 10] (fun v i wr => ∃ k : Nat, 1 ≤ k ∧ k ≤ m ∧ i = .int .i64 k ∧ Own cellsInt2 2 w.heap.size 46 wr v (genTo gen m ++ keepTo kill k) ∧ Below w.heap.size w wr) (fun _ i _ => m - (intOf i).toNat)
          case atStart => exact ⟨1, by omega, by omega, rfl, by rw [show keepTo kill 1 = [] from rfl, List.append_nil]; exact hown, hbw⟩
          case round =>
            obtain ⟨j, hj1, hjm, rfl, hown2, hbw2⟩ := hrel
            have hlen := genTo_len gen m
            have hlen2 := keepTo_len kill j
            have hlen3 : (genTo gen m ++ keepTo kill j).length ≤ 2100 := by rw [List.length_append]; omega
            by_cases hlt2 : j < m
            · cases hh : hasB kill j with
              | false =>
                have HS := Lib.hid (keepTo_yes hj1 hh)
                have HH := Lib.hid hh
                clear hh
                go_wp2_with fail
                refine (refHas_any B cB kill j _ hlk (hk.mono hbw2)).mono ?_
                rintro e w' ⟨rfl, rfl⟩
                rw [HH.out]
                go_wp2_with (at_builtin; refine wpList_push pairTy cellsInt2_ok rfl (.tmp 53) (.tmp 57) rfl w.heap.size _ (genTo gen m ++ keepTo kill j) rfl (hown2.alloc _) ((j : Int), (j : Int)) _ _ rfl (cells_two_new _ _ _ _) (by unfold maxLen; omega) (by omega) (by have := hbw2.size; simp; omega) ?_; intro v1 w1 hown1 hb1)
                go_roundw
                case rel => exact ⟨j + 1, by omega, by omega, by go_num, by rw [HS.out, ← List.append_assoc]; exact hown1, (bw_alloc hbw2).trans hb1⟩
                case measure => simp [intOf]; omega
              | true =>
                have HS := Lib.hid (keepTo_no hh)
                have HH := Lib.hid hh
                clear hh
                go_wp2_with fail
                refine (refHas_any B cB kill j _ hlk (hk.mono hbw2)).mono ?_
                rintro e w' ⟨rfl, rfl⟩
                rw [HH.out]
                go_wp2_with fail
                go_roundw
                case rel => exact ⟨j + 1, by omega, by omega, by go_num, by rw [HS.out]; exact hown2, hbw2⟩
                case measure => simp [intOf]; omega
            · have HJ := Lib.hid (show j = m by omega)
              rw [HJ.out] at hown2
              go_wp2_with fail
              go_ret2
              exact ⟨MakeR.good h1' h2' H3.out H4.out (FlowV.of_own hown2), hbw2⟩

end Go.Proofs.Ytcmooklcaeggbaa
