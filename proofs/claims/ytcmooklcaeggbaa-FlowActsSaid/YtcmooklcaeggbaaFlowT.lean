/-
  Chapter 29: Compose of the program.
-/
import Derived.Test.YtcmooklcaeggbaaFlowS
import Derived.Test.YtcmooklcaeggbaaSortG
namespace Go.Proofs.Ytcmooklcaeggbaa
open Go.RowKit
set_option linter.unusedVariables false

/-- 's[1:]' of a slice that reads as p :: r. -/
theorem FlowV.tail {w : World} {b o c : Nat} {l : List (Int × Int)} (hs : Sl Lay.int2 w (some ⟨b, o, none⟩) l) (hc : l.length ≤ c) (h1 : 0 < l.length) :
    (c = 1 → FlowV w (.slice (some ⟨b, o, none⟩) (l.length - 1) 0) (l.drop 1)) ∧ (¬ c = 1 → FlowV w (.slice (some ⟨b, o + 2, none⟩) (l.length - 1) (c - 1)) (l.drop 1)) := by
  have hlen : (l.drop 1).length = l.length - 1 := List.length_drop
  constructor
  · intro e
    have : l.drop 1 = [] := by rw [List.drop_eq_nil_iff]; omega
    rw [this]
    exact ⟨_, 0, by rw [show l.length - 1 = 0 by omega]; rfl, by simp, Sl.nil⟩
  · intro e
    have := hs.seg 1 l.length (by omega) (Nat.le_refl _)
    rw [List.take_length] at this
    exact ⟨_, c - 1, by rw [hlen]; rfl, by rw [hlen]; omega, this⟩

theorem outs_step {F G : List (Int × Int)} {k k' : Nat} {a : Int} {O : List Int} (hk : k ≤ k') (hk' : k' < F.length) (ha : F[k'].1 = a) (hO : ∀ c, c ∈ O ↔ ∃ b, (a, b) ∈ (F.take k').drop k ∧ (b, c) ∈ G) :
    ∀ c, c ∈ O ++ (withIn G F[k'].2).map (·.2) ↔ ∃ b, (a, b) ∈ (F.take (k' + 1)).drop k ∧ (b, c) ∈ G := fun c => by
  have e : (F.take (k' + 1)).drop k = (F.take k').drop k ++ [F[k']] := by
    rw [List.take_succ_eq_append_getElem hk', List.drop_append_of_le_length (by rw [List.length_take]; omega)]
  rw [e, List.mem_append, hO, withIn_mem]
  constructor
  · rintro (⟨b, h1, h2⟩ | h)
    · exact ⟨b, List.mem_append.2 (Or.inl h1), h2⟩
    · exact ⟨F[k'].2, List.mem_append.2 (Or.inr (List.mem_singleton.2 (Prod.ext ha.symm rfl))), h⟩
  · rintro ⟨b, h1, h2⟩
    rcases List.mem_append.1 h1 with h3 | h3
    · exact Or.inl ⟨b, h3, h2⟩
    · have h4 := List.mem_singleton.1 h3
      rw [← h4]
      exact Or.inr h2
theorem withIn_len (G : List (Int × Int)) (d : Int) : (withIn G d).length ≤ G.length := List.length_filter_le _ _
theorem lt_succ_in {F : List (Int × Int)} {k k' : Nat} {a : Int} (h : ∀ i (hi : i < F.length), k ≤ i → i < k' → F[i].1 = a) (hk' : k' < F.length) (he : F[k'].1 = a) : ∀ i (hi : i < F.length), k ≤ i → i < k' + 1 → F[i].1 = a := fun i hi h1 h2 => by
  by_cases e : i = k'
  · subst e; exact he
  · exact h i hi h1 (by omega)

def slLen : Value → Nat | .slice _ n _ => n | _ => 0

set_option maxRecDepth 100000 in
set_option maxHeartbeats 2000000 in
theorem flowCompose_any (A B : Option Addr) (cA cB : Nat) (f g : List (Int × Int)) (w : World) (hlf : f.length ≤ 1000) (hlg : g.length ≤ 1000) (hf : Sl Lay.int2 w A f) (hg : Sl Lay.int2 w B g) :
    Calls Try.prog 21 #[.slice A f.length cA, .slice B g.length cB] w fun e w' => (∃ v, e = .returned v ∧ FlowV w' v (compS f g)) ∧ Below w.heap.size w w' := by
  have HFA := Lib.hid (ascP_spec f).1
  have HGA := Lib.hid (ascP_spec g).1
  have hFl := Nat.le_trans (ascP_len f) hlf
  have hGl := Nat.le_trans (ascP_len g) hlg
  have HD : Hid (∀ R, CInv (ascP f) (ascP g) (ascP f).length R → R = compS f g) := fun R h => CInv.done h
  go_enter Try.func21, Try.ntmps21
  go_wp2_with fail
  refine (flowAscending_any A cA f _ (by omega) hf).mono ?_
  rintro e w1 ⟨⟨v1, rfl, hv1⟩, hb1⟩
  go_wp2_with fail
  refine (flowAscending_any B cB g _ (by omega) (hg.mono hb1)).mono ?_
  rintro e w2 ⟨⟨v2, rfl, hv2⟩, hb2⟩
  have hv1' := hv1.mono hb2
  have hbw2 := below_step hb1 hb2
  clear hv1 hb1 hb2
  generalize hF : ascP f = F at *
  generalize hG : ascP g = G at *
  clear hF hG
  obtain ⟨AG, cG, rfl, hcG, hsG⟩ := hv2
  go_wp2_with fail
  go_loopw [5, 7] (fun v5 v7 wr => ∃ (k : Nat) (R : List (Int × Int)), k ≤ F.length ∧ FlowV w2 v5 (F.drop k) ∧ Own cellsInt2 2 w2.heap.size 46 wr v7 R ∧ CInv F G k R ∧ R.length ≤ k * 1000 ∧ Below w2.heap.size w2 wr) (fun v5 _ _ => slLen v5)
  case atStart => exact ⟨0, [], Nat.zero_le _, hv1', Own.nil, CInv.start F G, by simp, Below.refl _ _⟩
  case round =>
    obtain ⟨k, R, hk, hv5, hown7, hC, hRl, hbw⟩ := hrel
    obtain ⟨A5, c5, rfl, hc5, hs5⟩ := hv5
    have HDL := Lib.hid (show (F.drop k).length = F.length - k from List.length_drop)
    rw [HDL.out] at hc5 ⊢
    by_cases hlt : k < F.length
    · have hpos : decide (0 < F.length - k) = true := by simp; omega
      obtain ⟨b, o, rfl, hb, c0, c1⟩ := (hs5.mono hbw).int2_at (i := 0) (by rw [HDL.out]; omega)
      simp only [Nat.zero_mul, Nat.add_zero, List.getElem_drop] at c0 c1
      go_wp2_with fail
      have hRl' : R.length ≤ 1000 * 1000 := Nat.le_trans hRl (Nat.mul_le_mul_right _ (by omega))
      obtain ⟨wo, rfl⟩ : ∃ wo : World, wo = wr := ⟨_, rfl⟩
      go_loopw [5, 9] (fun v5 v9 wr => ∃ (k' : Nat) (O : List Int), k ≤ k' ∧ k' ≤ F.length ∧ FlowV w2 v5 (F.drop k') ∧ Own cellsInt 1 w2.heap.size 3 wr v9 O ∧ Own cellsInt2 2 w2.heap.size 46 wr u7 R ∧ Hid (∀ i (hi : i < F.length), k ≤ i → i < k' → F[i].1 = F[k].1) ∧ Hid (∀ c, c ∈ O ↔ ∃ b, (F[k].1, b) ∈ (F.take k').drop k ∧ (b, c) ∈ G) ∧ O.length ≤ (k' - k) * 1000 ∧ Below w2.heap.size w2 wr) (fun v5 _ _ => slLen v5)
      case atStart => exact ⟨k, [], Nat.le_refl _, hk, ⟨_, c5, by rw [HDL.out], by rw [HDL.out]; exact hc5, hs5⟩, Own.nil, hown7, fun i hi h1 h2 => by omega, fun c => by simp, by simp, hbw⟩
      case round =>
        obtain ⟨k', O, hkk, hk', hv5, hown9, hown7', HIN, HO, hOl, hbw'⟩ := hrel
        clear c0 c1 hb
        obtain ⟨A5', c5', rfl, hc5', hs5'⟩ := hv5
        have HDL' := Lib.hid (show (F.drop k').length = F.length - k' from List.length_drop)
        rw [HDL'.out] at hc5' ⊢
        have hOl' : O.length ≤ 1000 * 1000 := by omega
        by_cases hgo : ∃ h : k' < F.length, F[k'].1 = F[k].1
        · obtain ⟨hlt', he⟩ := hgo
          have hpos' : decide (0 < F.length - k') = true := by simp; omega
          have e1 : (F[k'].1 == F[k].1) = true := by simp [he]
          have HE := Lib.hid he
          clear he
          obtain ⟨b', o', rfl, hb', c0, c1⟩ := (hs5'.mono hbw').int2_at (i := 0) (by rw [HDL'.out]; omega)
          simp only [Nat.zero_mul, Nat.add_zero, List.getElem_drop] at c0 c1
          go_wp2_with fail
          refine (flowFrom_any AG cG G F[k'].2 _ (by omega) hcG HGA.out.rises w2 hbw' hsG).mono ?_
          rintro e w3 ⟨⟨vT, rfl, hvT⟩, hb3⟩
          have HT := Lib.hid (outs_step hkk hlt' HE.out HO.out)
          have hTl := Nat.le_trans (withIn_len G F[k'].2) hGl
          generalize hTE : withIn G F[k'].2 = T at *
          clear hTE
          obtain ⟨AT, cT, rfl, hcT, hsT⟩ := hvT
          have hown9' := hown9.mono hb3
          have hown7'' := hown7'.mono hb3
          have hbw3 := below_step hbw' hb3
          clear c0 c1 hb' hown9 hown7' hb3
          go_wp2_with fail
          obtain ⟨wo2, rfl⟩ : ∃ wo2 : World, wo2 = wr := ⟨_, rfl⟩
          go_loopw [9, 43] (fun v9 i wr => ∃ j : Nat, j ≤ T.length ∧ i = .int .i64 j ∧ Own cellsInt 1 w2.heap.size 3 wr v9 (O ++ (T.take j).map (·.2)) ∧ Own cellsInt2 2 w2.heap.size 46 wr u7 R ∧ Below w2.heap.size w2 wr) (fun _ i _ => T.length - (intOf i).toNat)
          case atStart => exact ⟨0, Nat.zero_le _, rfl, by simpa using hown9', hown7'', hbw3⟩
          case round =>
            obtain ⟨j, hj, rfl, hown, hown7, hbw⟩ := hrel
            by_cases hjt : j < T.length
            · obtain ⟨bT, oT, rfl, hbT, d0, d1⟩ := (hsT.mono hbw).int2_at hjt
              have HS : Hid (O ++ (T.take (j + 1)).map (·.2) = (O ++ (T.take j).map (·.2)) ++ [T[j].2]) := by
                show _ = _
                rw [List.take_succ_eq_append_getElem hjt, List.map_append, List.append_assoc]; rfl
              have hll : (O ++ (T.take j).map (·.2)).length ≤ 1002000 := by rw [List.length_append, List.length_map, List.length_take]; omega
              have hsz := hbw.size
              go_wp2_with (at_builtin; refine wpList_pushG intTy cellsInt_ok rfl (.tmp 47) (.tmp 50) rfl w2.heap.size _ (O ++ (T.take j).map (·.2)) rfl ((hown.alloc _).alloc _) T[j].2 (wr.heap.size + 1) _ rfl (cells_one_at _ _ _ _ (by simp)) (by unfold maxLen; omega) (by omega) (by simp; omega) ?_; intro v1 w4 hown4 hb4 hg4)
              go_roundw
              case rel => exact ⟨j + 1, by omega, by go_num, by rw [HS.out]; exact hown4, ((hown7.alloc _).alloc _).kept_other ((hown.alloc _).alloc _) (by decide) hg4, (bw_alloc (bw_alloc hbw)).trans hb4⟩
              case measure => simp [intOf]; omega
            · rw [List.take_of_length_le (by omega)] at hown
              have htl := FlowV.tail hs5' (by rw [HDL'.out]; exact hc5') (by rw [HDL'.out]; omega)
              rw [HDL'.out, List.drop_drop] at htl
              have hnl : (O ++ T.map (·.2)).length ≤ (k' + 1 - k) * 1000 := by rw [List.length_append, List.length_map]; omega
              have HIN' := Lib.hid (lt_succ_in HIN.out hlt' HE.out)
              by_cases hc1 : c5' = 1
              · have h2 := htl.1 hc1
                clear htl
                go_wp2_with fail
                go_roundw
                case rel => exact ⟨k' + 1, O ++ T.map (·.2), by omega, by omega, h2, hown, hown7, HIN'.out, HT.out, hnl, hbw⟩
                case measure => simp [slLen]; omega
              · have h2 := htl.2 hc1
                clear htl
                go_wp2_with fail
                go_roundw
                case rel => exact ⟨k' + 1, O ++ T.map (·.2), by omega, by omega, h2, hown, hown7, HIN'.out, HT.out, hnl, hbw⟩
                case measure => simp [slLen]; omega
        · have hkk' : k < k' := by
            rcases Nat.lt_or_ge k k' with h | h
            · exact h
            · have : k' = k := by omega
              subst this
              exact absurd ⟨hlt, rfl⟩ hgo
          have hout : ∀ hi : k' < F.length, F[k'].1 ≠ F[k].1 := fun hi h => hgo ⟨hi, h⟩
          have hout := Lib.hid hout
          clear hgo
          by_cases hlt' : k' < F.length
          · have hpos' : decide (0 < F.length - k') = true := by simp; omega
            have e1 : (F[k'].1 == F[k].1) = false := by simpa using hout.out hlt'
            obtain ⟨b', o', rfl, hb', c0, c1⟩ := (hs5'.mono hbw').int2_at (i := 0) (by rw [HDL'.out]; omega)
            simp only [Nat.zero_mul, Nat.add_zero, List.getElem_drop] at c0 c1
            go_wp2_with fail
            clear c0 c1 hb'
            refine (sortInts_ownG _ O _ _ hown9 (by omega)).mono ?_
            rintro e w3 ⟨rfl, hown3, hg3⟩
            have hr3 := hown7'.kept_other hown9 (by decide) hg3
            have hb3 := hown9.grown_below hg3 hbw'.size
            go_wp2_with fail
            refine (compactInts_ownG _ (sortI O) _ _ hown3 (by rw [sortI_len]; omega)).mono ?_
            rintro e w4 ⟨⟨v4, rfl, hown4⟩, hg4⟩
            have hr4 := hr3.kept_other hown3 (by decide) hg4
            have hb4 := hown3.grown_below hg4 (Nat.le_trans hbw'.size hb3.size)
            have hbw4 := (hbw'.trans hb3).trans hb4
            have hCl : (ascI O).length ≤ (k' - k) * 1000 := Nat.le_trans (ascI_len O) hOl
            have hown4' : Own cellsInt 1 w2.heap.size 3 w4 v4 (ascI O) := hown4
            have HC4 := Lib.hid (hC.step HFA.out hkk' hk' HIN.out hout.out HO.out)
            generalize hCE : ascI O = C at *
            clear hCE hown4 hown3 hown9 hown7' hr3 hg3 hg4 hb3 hb4 hown7 hbw
            obtain ⟨AC, cC, rfl, hcC, -⟩ := Own.sl (L := Lay.int) hown4' rfl (fun _ => rfl)
            go_wp2_with fail
            obtain ⟨wo2, rfl⟩ : ∃ wo2 : World, wo2 = wr := ⟨_, rfl⟩
            go_loopw [7, 60] (fun v7 i wr => ∃ j : Nat, j ≤ C.length ∧ i = .int .i64 j ∧ Own cellsInt2 2 w2.heap.size 46 wr v7 (R ++ (C.take j).map fun c => (F[k].1, c)) ∧ Own cellsInt 1 w2.heap.size 3 wr (.slice AC C.length cC) C ∧ Below w2.heap.size w2 wr) (fun _ i _ => C.length - (intOf i).toNat)
            case atStart => exact ⟨0, Nat.zero_le _, rfl, by simpa using hr4, hown4', hbw4⟩
            case round =>
              obtain ⟨j, hj, rfl, hown, hownC, hbw⟩ := hrel
              by_cases hjt : j < C.length
              · obtain ⟨gC, rfl, -, -, -⟩ := hownC.form (by omega)
                have d0 := Own.at1 (c := fun x => .int .i64 x) hownC rfl hjt
                have HS : Hid (R ++ ((C.take (j + 1)).map fun c => (F[k].1, c)) = (R ++ (C.take j).map fun c => (F[k].1, c)) ++ [(F[k].1, C[j])]) := by
                  show _ = _
                  rw [List.take_succ_eq_append_getElem hjt, List.map_append, List.append_assoc]; rfl
                have hll : (R ++ (C.take j).map fun c => (F[k].1, c)).length ≤ 3000000 := by rw [List.length_append, List.length_map, List.length_take]; omega
                have hsz := hbw.size
                go_wp2_with (at_builtin; refine wpList_pushG pairTy cellsInt2_ok rfl (.tmp 64) (.tmp 68) rfl w2.heap.size _ (R ++ (C.take j).map fun c => (F[k].1, c)) rfl (hown.alloc _) (F[k].1, C[j]) _ _ rfl (cells_two_new _ _ _ _) (by unfold maxLen; omega) (by omega) (by simp; omega) ?_; intro v1 w5 hown5 hb5 hg5)
                go_roundw
                case rel => exact ⟨j + 1, by omega, by go_num, by rw [HS.out]; exact hown5, (hownC.alloc _).kept_other (hown.alloc _) (by decide) hg5, (bw_alloc hbw).trans hb5⟩
                case measure => simp [intOf]; omega
              · rw [List.take_of_length_le (by omega)] at hown
                go_wp2_with fail
                go_roundw
                case rel => exact ⟨k', R ++ C.map fun c => (F[k].1, c), hk', ⟨_, c5', by rw [HDL'.out], by rw [HDL'.out]; exact hc5', hs5'⟩, hown, HC4.out, by rw [List.length_append, List.length_map]; omega, hbw⟩
                case measure => simp [slLen]; omega
          · have hpos' : decide (0 < F.length - k') = false := by simp; omega
            go_wp2_with fail
            refine (sortInts_ownG _ O _ _ hown9 (by omega)).mono ?_
            rintro e w3 ⟨rfl, hown3, hg3⟩
            have hr3 := hown7'.kept_other hown9 (by decide) hg3
            have hb3 := hown9.grown_below hg3 hbw'.size
            go_wp2_with fail
            refine (compactInts_ownG _ (sortI O) _ _ hown3 (by rw [sortI_len]; omega)).mono ?_
            rintro e w4 ⟨⟨v4, rfl, hown4⟩, hg4⟩
            have hr4 := hr3.kept_other hown3 (by decide) hg4
            have hb4 := hown3.grown_below hg4 (Nat.le_trans hbw'.size hb3.size)
            have hbw4 := (hbw'.trans hb3).trans hb4
            have hCl : (ascI O).length ≤ (k' - k) * 1000 := Nat.le_trans (ascI_len O) hOl
            have hown4' : Own cellsInt 1 w2.heap.size 3 w4 v4 (ascI O) := hown4
            have HC4 := Lib.hid (hC.step HFA.out hkk' hk' HIN.out hout.out HO.out)
            generalize hCE : ascI O = C at *
            clear hCE hown4 hown3 hown9 hown7' hr3 hg3 hg4 hb3 hb4 hown7 hbw
            obtain ⟨AC, cC, rfl, hcC, -⟩ := Own.sl (L := Lay.int) hown4' rfl (fun _ => rfl)
            go_wp2_with fail
            obtain ⟨wo2, rfl⟩ : ∃ wo2 : World, wo2 = wr := ⟨_, rfl⟩
            go_loopw [7, 60] (fun v7 i wr => ∃ j : Nat, j ≤ C.length ∧ i = .int .i64 j ∧ Own cellsInt2 2 w2.heap.size 46 wr v7 (R ++ (C.take j).map fun c => (F[k].1, c)) ∧ Own cellsInt 1 w2.heap.size 3 wr (.slice AC C.length cC) C ∧ Below w2.heap.size w2 wr) (fun _ i _ => C.length - (intOf i).toNat)
            case atStart => exact ⟨0, Nat.zero_le _, rfl, by simpa using hr4, hown4', hbw4⟩
            case round =>
              obtain ⟨j, hj, rfl, hown, hownC, hbw⟩ := hrel
              by_cases hjt : j < C.length
              · obtain ⟨gC, rfl, -, -, -⟩ := hownC.form (by omega)
                have d0 := Own.at1 (c := fun x => .int .i64 x) hownC rfl hjt
                have HS : Hid (R ++ ((C.take (j + 1)).map fun c => (F[k].1, c)) = (R ++ (C.take j).map fun c => (F[k].1, c)) ++ [(F[k].1, C[j])]) := by
                  show _ = _
                  rw [List.take_succ_eq_append_getElem hjt, List.map_append, List.append_assoc]; rfl
                have hll : (R ++ (C.take j).map fun c => (F[k].1, c)).length ≤ 3000000 := by rw [List.length_append, List.length_map, List.length_take]; omega
                have hsz := hbw.size
                go_wp2_with (at_builtin; refine wpList_pushG pairTy cellsInt2_ok rfl (.tmp 64) (.tmp 68) rfl w2.heap.size _ (R ++ (C.take j).map fun c => (F[k].1, c)) rfl (hown.alloc _) (F[k].1, C[j]) _ _ rfl (cells_two_new _ _ _ _) (by unfold maxLen; omega) (by omega) (by simp; omega) ?_; intro v1 w5 hown5 hb5 hg5)
                go_roundw
                case rel => exact ⟨j + 1, by omega, by go_num, by rw [HS.out]; exact hown5, (hownC.alloc _).kept_other (hown.alloc _) (by decide) hg5, (bw_alloc hbw).trans hb5⟩
                case measure => simp [intOf]; omega
              · rw [List.take_of_length_le (by omega)] at hown
                go_wp2_with fail
                go_roundw
                case rel => exact ⟨k', R ++ C.map fun c => (F[k].1, c), hk', ⟨_, c5', by rw [HDL'.out], by rw [HDL'.out]; exact hc5', hs5'⟩, hown, HC4.out, by rw [List.length_append, List.length_map]; omega, hbw⟩
                case measure => simp [slLen]; omega
    · have hpos : decide (0 < F.length - k) = false := by simp; omega
      have HK := Lib.hid (show k = F.length by omega)
      rw [HK.out] at hC
      have HRR := Lib.hid (HD.out R hC)
      go_wp2_with fail
      go_ret
      exact ⟨⟨_, rfl, by rw [← HRR.out]; exact FlowV.of_own hown7⟩, below_step hbw2 hbw⟩
end Go.Proofs.Ytcmooklcaeggbaa
