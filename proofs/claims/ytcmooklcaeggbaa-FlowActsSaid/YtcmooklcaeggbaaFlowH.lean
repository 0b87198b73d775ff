/-
  Contracts of chapter 29: Make of the program.
-/
import Derived.Test.YtcmooklcaeggbaaFlowG
namespace Go.Proofs.Ytcmooklcaeggbaa
open Go.RowKit
set_option linter.unusedVariables false

theorem range_filter_eq {p : Nat → Bool} : ∀ {a b : Nat}, (∀ x, p x = true → x < a) → a ≤ b → (List.range a).filter p = (List.range b).filter p
  | a, 0, _, h => by rw [show a = 0 by omega]
  | a, b + 1, ha, h => by
    by_cases e : a = b + 1
    · rw [e]
    · rw [range_filter_eq (b := b) ha (by omega), List.range_succ, List.filter_append]
      have : p b = false := by
        cases hb : p b with
        | false => rfl
        | true => have := ha b hb; omega
      simp [this]
theorem range_filter_both {p : Nat → Bool} {a b : Nat} (ha : ∀ x, p x = true → x < a) (hb : ∀ x, p x = true → x < b) : (List.range a).filter p = (List.range b).filter p := by
  rcases Nat.le_total a b with h | h
  · exact range_filter_eq ha h
  · exact (range_filter_eq hb h).symm
/-- What bits.List gives of the facts of a list. -/
theorem bitsTo_of {ws : List Nat} {gen : List Int} {m : Nat} (hb : ∀ x : Nat, bitAt ws x = decide ((x : Int) ∈ gen)) (hp : properB gen m = true) :
    bitsTo ws (ws.length * 64) = (pickTo (fun d => hasB gen d) m).map fun (d : Nat) => (d : Int) := by
  unfold bitsTo pickTo
  congr 1
  have e : (fun d => decide (0 < d) && hasB gen ((d : Nat) : Int)) = bitAt ws := by
    funext d
    rw [hb]
    unfold hasB
    by_cases hm : (d : Int) ∈ gen
    · have := properB_mem hp _ hm
      simp [hm]
      omega
    · simp [hm]
  rw [e]
  refine range_filter_both (fun x hx => ?_) (fun x hx => ?_)
  · rcases Nat.lt_or_ge (x / 64) ws.length with h | h
    · omega
    · rw [bitAt_ge (by omega)] at hx; cases hx
  · rw [hb] at hx
    have := properB_mem hp _ (of_decide_eq_true hx)
    omega
def withGen (l : List Int) : List (Int × Int) := (0, 0) :: l.map fun d => (0, d)
theorem withGen_len (l : List Int) : (withGen l).length = l.length + 1 := by simp [withGen]
theorem withGen_snoc (l : List Int) (d : Int) : withGen (l ++ [d]) = withGen l ++ [(0, d)] := by simp [withGen]
theorem withGen_all (gen : List Int) (m : Nat) : withGen ((pickTo (fun d => hasB gen d) m).map fun (d : Nat) => (d : Int)) = genTo gen m := by unfold withGen genTo; rw [List.map_map]; rfl


set_option maxHeartbeats 1000000 in
theorem flowMake_any (A B : Option Addr) (cA cB : Nat) (n : Int) (gen kill : List Int) (w : World) (hg : Sl Lay.int w A gen) (hkk : Sl Lay.int w B kill) (hlg : gen.length ≤ 9223372036854775807) (hlk : kill.length ≤ 9223372036854775807) :
    Calls Try.prog 9 #[.int .i64 n, .slice A gen.length cA, .slice B kill.length cB] w fun e w' => MakeR n gen kill e w' ∧ Below w.heap.size w w' := by
  by_cases h1 : n < 1
  · go_enter Try.func9, Try.ntmps9
    go_wp2
    go_ret2
    exact ⟨MakeR.bad (Or.inl h1), (by repeat (first | assumption | exact Below.refl _ _ | apply bw_alloc | apply bw_drew | apply bw_drewN | apply bw_later | apply bw_step))⟩
  by_cases h2 : 1024 < n
  · go_enter Try.func9, Try.ntmps9
    go_wp2
    go_ret2
    exact ⟨MakeR.bad (Or.inr (Or.inl h2)), (by repeat (first | assumption | exact Below.refl _ _ | apply bw_alloc | apply bw_drew | apply bw_drewN | apply bw_later | apply bw_step))⟩
  have h1' : 1 ≤ n := by omega
  have h2' : n ≤ 1024 := by omega
  clear h1 h2
  go_enter Try.func9, Try.ntmps9
  go_wp2_with fail
  go_loop [29] (fun i => ∃ k : Nat, k ≤ 2 ∧ i = .int .i64 k ∧ Hid ((0 < k → properB gen n = true) ∧ (1 < k → properB kill n = true))) (fun i => 2 - (intOf i).toNat)
  case atStart => exact ⟨0, Nat.zero_le _, rfl, fun h => by omega, fun h => by omega⟩
  case round =>
    obtain ⟨q, hq, rfl, HQ⟩ := hrel
    rcases (show q = 0 ∨ q = 1 ∨ q = 2 by omega) with rfl | rfl | rfl
    · go_wp2_with fail
      go_loop [35] (fun i => ∃ k : Nat, k ≤ gen.length ∧ i = .int .i64 k ∧ Hid (∀ i (hi : i < gen.length), i < k → 1 ≤ gen[i] ∧ gen[i] < n)) (fun i => gen.length - (intOf i).toNat)
      case atStart => exact ⟨0, Nat.zero_le _, rfl, fun i hi h => by omega⟩
      case round =>
        obtain ⟨k, hk, rfl, HG⟩ := hrel
        by_cases hlt : k < gen.length
        · obtain ⟨b, o, rfl, hb, c0⟩ := hg.int_at hlt
          by_cases h1 : gen[k] < 1
          · have HP := Lib.hid (properB_no (n := n) hlt (Or.inl h1))
            go_wp2_with fail
            go_ret2
            exact ⟨MakeR.bad (Or.inr (Or.inr (Or.inl HP.out))), (by repeat (first | assumption | exact Below.refl _ _ | apply bw_alloc | apply bw_drew | apply bw_drewN | apply bw_later | apply bw_step))⟩
          · by_cases h2 : n ≤ gen[k]
            · have HP := Lib.hid (properB_no hlt (Or.inr h2))
              go_wp2_with fail
              go_ret2
              exact ⟨MakeR.bad (Or.inr (Or.inr (Or.inl HP.out))), (by repeat (first | assumption | exact Below.refl _ _ | apply bw_alloc | apply bw_drew | apply bw_drewN | apply bw_later | apply bw_step))⟩
            · have h3 : gen[k] < n := by omega
              go_wp2_with fail
              go_round
              case rel => exact ⟨k + 1, by omega, by go_num, lt_succ_all hlt HG.out ⟨by omega, h3⟩⟩
              case measure => simp [intOf]; omega
        · have HP := Lib.hid (properB_yes hlt HG.out)
          go_wp2_with fail
          go_round
          case rel => exact ⟨1, by omega, rfl, fun _ => HP.out, fun h => by omega⟩
          case measure => simp [intOf]
    · go_wp2_with fail
      go_loop [35] (fun i => ∃ k : Nat, k ≤ kill.length ∧ i = .int .i64 k ∧ Hid (∀ i (hi : i < kill.length), i < k → 1 ≤ kill[i] ∧ kill[i] < n)) (fun i => kill.length - (intOf i).toNat)
      case atStart => exact ⟨0, Nat.zero_le _, rfl, fun i hi h => by omega⟩
      case round =>
        obtain ⟨k, hk, rfl, HG⟩ := hrel
        by_cases hlt : k < kill.length
        · obtain ⟨b, o, rfl, hb, c0⟩ := hkk.int_at hlt
          by_cases h1 : kill[k] < 1
          · have HP := Lib.hid (properB_no (n := n) hlt (Or.inl h1))
            go_wp2_with fail
            go_ret2
            exact ⟨MakeR.bad (Or.inr (Or.inr (Or.inr HP.out))), (by repeat (first | assumption | exact Below.refl _ _ | apply bw_alloc | apply bw_drew | apply bw_drewN | apply bw_later | apply bw_step))⟩
          · by_cases h2 : n ≤ kill[k]
            · have HP := Lib.hid (properB_no hlt (Or.inr h2))
              go_wp2_with fail
              go_ret2
              exact ⟨MakeR.bad (Or.inr (Or.inr (Or.inr HP.out))), (by repeat (first | assumption | exact Below.refl _ _ | apply bw_alloc | apply bw_drew | apply bw_drewN | apply bw_later | apply bw_step))⟩
            · have h3 : kill[k] < n := by omega
              go_wp2_with fail
              go_round
              case rel => exact ⟨k + 1, by omega, by go_num, lt_succ_all hlt HG.out ⟨by omega, h3⟩⟩
              case measure => simp [intOf]; omega
        · have HP := Lib.hid (properB_yes hlt HG.out)
          go_wp2_with fail
          go_round
          case rel => exact ⟨2, by omega, rfl, fun _ => HQ.out.1 (by omega), fun _ => HP.out⟩
          case measure => simp [intOf]
    · have HP := Lib.hid (HQ.out.1 (by omega))
      have HQ2 := Lib.hid (HQ.out.2 (by omega))
      clear HQ
      obtain ⟨m, rfl⟩ := Int.eq_ofNat_of_zero_le (show 0 ≤ n by omega)
      have m1 : 1 ≤ m := by omega
      have m2 : m ≤ 1024 := by omega
      go_wp2_with fail
      refine (bitsOf_any A cA gen _ hlg (fun x hx => by have := properB_mem HP.out x hx; omega) (hg.mono (bw_alloc (Below.refl _ _)))).mono ?_
      rintro e w1 ⟨⟨v1, rfl, ws, hws, hwl, hbv, HB⟩, hb1⟩
      have HB1 := Lib.hid HB
      clear HB
      have hbw1 : Below w.heap.size w w1 := below_step (bw_alloc (Below.refl _ _)) hb1
      go_wp2_with fail
      refine (bitsOf_any B cB kill _ hlk (fun x hx => by have := properB_mem HQ2.out x hx; omega) (hkk.mono hbw1)).mono ?_
      rintro e w2 ⟨⟨v2, rfl, ws2, hws2, hwl2, hbv2, HB⟩, hb2⟩
      have HB2 := Lib.hid HB
      clear HB
      have hbw2 : Below w.heap.size w w2 := below_step hbw1 hb2
      obtain ⟨A1, c1, rfl, hc1, hs1⟩ := hbv
      obtain ⟨A2, c2, rfl, hc2, hs2⟩ := hbv2
      go_wp2_with fail
      refine (bitsList_any A1 c1 ws _ hwl hws (hs1.mono (bw_alloc hb2))).mono ?_
      rintro e w3 ⟨⟨v3, rfl, hown3⟩, hb3⟩
      have hbw3 : Below w.heap.size w w3 := below_step (bw_alloc hbw2) hb3
      rw [bitsTo_of HB1.out HP.out] at hown3
      have hll : ((pickTo (fun d => hasB gen d) m).map fun (d : Nat) => (d : Int)).length ≤ m := by rw [List.length_map]; exact pickTo_len _ _
      have HWG := Lib.hid (withGen_all gen m)
      generalize hL : (pickTo (fun d => hasB gen d) m).map (fun (d : Nat) => (d : Int)) = L at *
      clear hL
      obtain ⟨A3, c3, rfl, hc3, hs3⟩ := Own.sl (L := Lay.int) hown3 rfl (fun _ => rfl)
      clear hs3
      have hown0 : Own cellsInt2 2 w2.heap.size 46 (w2.alloc (.cells #[.int .i64 0, .int .i64 0] 46)) (.slice (some ⟨w2.heap.size, 0, none⟩) 1 1) (withGen (L.take 0)) :=
        Own.lit (cells := cellsInt2) (size := 2) w2 #[.int .i64 0, .int .i64 0] [(0, 0)] (Nat.le_refl _) (by simp [maxLen]) rfl rfl
      have hown1 := hown0.mono hb3
      clear hown0
      have hb23 : Below w2.heap.size w2 w3 := below_step (bw_alloc (Below.refl _ _)) hb3
      go_wp2_with fail
      go_loopw [15, 69] (fun v i wr => ∃ k : Nat, k ≤ L.length ∧ i = .int .i64 k ∧ Own cellsInt2 2 w2.heap.size 46 wr v (withGen (L.take k)) ∧ Own cellsInt 1 (w2.heap.size + 1) 3 wr (.slice A3 L.length c3) L ∧ Below w2.heap.size w2 wr) (fun _ i _ => L.length - (intOf i).toNat)
      case atStart => exact ⟨0, Nat.zero_le _, rfl, hown1, by simpa using hown3, hb23⟩
      case round =>
        obtain ⟨k, hk, rfl, hof, hol, hbr⟩ := hrel
        by_cases hlt : k < L.length
        · obtain ⟨g, rfl, hg1, hg2, -⟩ := hol.form (by omega)
          have d0 := Own.at1 (c := fun x => .int .i64 x) hol rfl hlt
          have HS := Lib.hid (withGen_snoc (L.take k) L[k])
          rw [← take_snoc hlt] at HS
          have hfl : (withGen (L.take k)).length ≤ 2000 := by rw [withGen_len, List.length_take]; omega
          go_wp2_with (at_builtin; refine wpList_pushG pairTy cellsInt2_ok rfl (.tmp 73) (.tmp 76) rfl w2.heap.size _ (withGen (L.take k)) rfl (hof.alloc _) (0, L[k]) _ _ rfl (cells_two_new _ _ _ _) (by unfold maxLen; omega) (by omega) (by have := hbr.size; simp; omega) ?_; intro v1 w1 hown1 hb1 hgr1)
          go_roundw
          case rel => exact ⟨k + 1, by omega, by go_num, by rw [HS.out]; exact hown1, (hol.alloc _).kept_other (hof.alloc _) (by decide) hgr1, (bw_alloc hbr).trans hb1⟩
          case measure => simp [intOf]; omega
        · rw [List.take_of_length_le (by omega), HWG.out] at hof
          clear hol
          go_wp2_with fail
          obtain ⟨wo, rfl⟩ : ∃ wo : World, wo = wr := ⟨_, rfl⟩
          go_loopw [15, 18] (fun v i wr => ∃ k : Nat, 1 ≤ k ∧ k ≤ m ∧ i = .int .i64 k ∧ Own cellsInt2 2 w2.heap.size 46 wr v (genTo gen m ++ keepTo kill k) ∧ Below w2.heap.size w2 wr) (fun _ i _ => m - (intOf i).toNat)
          case atStart => exact ⟨1, by omega, by omega, rfl, by rw [show keepTo kill 1 = [] from rfl, List.append_nil]; exact hof, hbr⟩
          case round =>
            obtain ⟨j, hj1, hjm, rfl, hown2, hbrr⟩ := hrel
            have hlen := genTo_len gen m
            have hlen2 := keepTo_len kill j
            have hlen3 : (genTo gen m ++ keepTo kill j).length ≤ 2100 := by rw [List.length_append]; omega
            by_cases hlt2 : j < m
            · have HX := Lib.hid (HB2.out j)
              cases hh : hasB kill j with
              | false =>
                have HS := Lib.hid (keepTo_yes hj1 hh)
                have HH := Lib.hid (HX.out.trans hh)
                clear hh HX
                go_wp2_with fail
                refine (bitsHas_any A2 c2 ws2 j _ (by omega) hwl2 hws2 (hs2.mono hbrr)).mono ?_
                rintro e w' ⟨rfl, rfl⟩
                rw [HH.out]
                go_wp2_with (at_builtin; refine wpList_push pairTy cellsInt2_ok rfl (.tmp 88) (.tmp 92) rfl w2.heap.size _ (genTo gen m ++ keepTo kill j) rfl (hown2.alloc _) ((j : Int), (j : Int)) _ _ rfl (cells_two_new _ _ _ _) (by unfold maxLen; omega) (by omega) (by have := hbrr.size; simp; omega) ?_; intro v1 w1 hown1 hb1)
                go_roundw
                case rel => exact ⟨j + 1, by omega, by omega, by go_num, by rw [HS.out, ← List.append_assoc]; exact hown1, (bw_alloc hbrr).trans hb1⟩
                case measure => simp [intOf]; omega
              | true =>
                have HS := Lib.hid (keepTo_no hh)
                have HH := Lib.hid (HX.out.trans hh)
                clear hh HX
                go_wp2_with fail
                refine (bitsHas_any A2 c2 ws2 j _ (by omega) hwl2 hws2 (hs2.mono hbrr)).mono ?_
                rintro e w' ⟨rfl, rfl⟩
                rw [HH.out]
                go_wp2_with fail
                go_roundw
                case rel => exact ⟨j + 1, by omega, by omega, by go_num, by rw [HS.out]; exact hown2, hbrr⟩
                case measure => simp [intOf]; omega
            · have HJ := Lib.hid (show j = m by omega)
              rw [HJ.out] at hown2
              go_wp2_with fail
              go_ret2
              exact ⟨MakeR.good h1' h2' HP.out HQ2.out (FlowV.of_own hown2), below_step hbw2 hbrr⟩
end Go.Proofs.Ytcmooklcaeggbaa
