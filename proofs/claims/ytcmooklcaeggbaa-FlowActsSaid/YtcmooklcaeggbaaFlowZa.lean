/-
  Chapter 29: the walk of the law FlowActs.
-/
import Derived.Test.YtcmooklcaeggbaaFlowZ
namespace Go.Proofs.Ytcmooklcaeggbaa
open Go.RowKit
set_option linter.unusedVariables false

theorem apply_good (A B : Option Addr) (cA cB : Nat) (f : List (Int × Int)) (l : List Int) (w : World) (hlf : f.length ≤ 3600) (hll : l.length ≤ 200) (hf : Sl Lay.int2 w A f) (hs : Sl Lay.int w B l) (hG : GoodF f) (hol : Hid (∀ x ∈ l, okInt x)) :
    Calls Try.prog 19 #[.slice A f.length cA, .slice B l.length cB] w fun e w' => (∃ v, e = .returned v ∧ Own cellsInt 1 (w.heap.size + 1) 3 w' v (appl f l)) ∧ Below w.heap.size w w' :=
  flowApply_own A B cA cB f l w (by omega) (by omega) hf hs hG.okIn hol
theorem appl_len60 {f : List (Int × Int)} (hf : GoodF f) (l : List Int) : (appl f l).length ≤ 60 := by
  have h1 := appl_asc f l
  have h2 := appl_small hf l
  generalize appl f l = m at *
  suffices ∀ (m : List Int) (k : Nat), m.Pairwise (· < ·) → (∀ x ∈ m, (k : Int) ≤ x ∧ x < 50) → m.length + k ≤ 60 ∨ 50 < k ∨ m.length = 0 by
    rcases this m 0 h1 (fun x hx => by have := h2 x hx; omega) with h | h | h <;> omega
  intro m
  induction m with
  | nil => intro k _ _; exact Or.inr (Or.inr rfl)
  | cons x r ih =>
    intro k hp hr
    rw [List.pairwise_cons] at hp
    have hx := hr x (by simp)
    rcases ih (k + 1) hp.2 (fun y hy => by have := hr y (by simp [hy]); have := hp.1 y hy; omega) with h | h | h
    · left; simp; omega
    · omega
    · left; simp [h]; omega

set_option maxRecDepth 100000 in
set_option maxHeartbeats 4000000 in
theorem walk_FlowActs (w : World) (A : Option Addr) (cA : Nat) (f : List (Int × Int)) (hcA : f.length ≤ cA) (hf : Sl Lay.int2 w A f) (hof : f.length ≤ maxLen ∧ ∀ x ∈ f, I64 x.1 ∧ I64 x.2)
    (B : Option Addr) (cB : Nat) (g : List (Int × Int)) (hcB : g.length ≤ cB) (hg : Sl Lay.int2 w B g) (hog : g.length ≤ maxLen ∧ ∀ x ∈ g, I64 x.1 ∧ I64 x.2)
    (C : Option Addr) (cC : Nat) (l : List Int) (hcC : l.length ≤ cC) (hl : Sl Lay.int w C l) (hol : l.length ≤ maxLen ∧ ∀ x ∈ l, I64 x) :
    Calls Try.prog 8 #[.slice A f.length cA, .slice B g.length cB, .slice C l.length cC] w fun e w' => e = .returned (.bool true) ∧ Below w.heap.size w w' := by
  have hm1 := hof.1
  have hm2 := hog.1
  have hm3 := hol.1
  have ol' : Hid (∀ x ∈ l, okInt x) := fun x hx => okInt_of_I64 (hol.2 x hx)
  unfold maxLen at hm1 hm2 hm3
  clear hof hog hol
  have KN : ∀ W, Calls Try.prog 14 #[] W fun e w' => e = .returned (.bool true) ∧ Below W.heap.size W w' := knows_any
  go_enter Try.func8, Try.ntmps8
  go_wp2_with fail
  refine (few_any A B cA cB f g _ hm1 hm2).mono ?_
  rintro e w1 ⟨rfl, rfl⟩
  cases hfew : fewB f g with
  | false =>
    go_wp2_with fail
    refine (KN _).mono ?_
    rintro e w4 ⟨rfl, hb4⟩
    go_wp2_with fail
    go_ret
    exact ⟨rfl, hb4⟩
  | true =>
  simp only [fewB, Bool.and_eq_true, decide_eq_true_eq] at hfew
  obtain ⟨s1, s2⟩ := hfew
  by_cases s3 : 60 < l.length
  · go_wp2_with fail
    refine (KN _).mono ?_
    rintro e w4 ⟨rfl, hb4⟩
    go_wp2_with fail
    go_ret
    exact ⟨rfl, hb4⟩
  have s3' : l.length ≤ 60 := by omega
  go_wp2_with fail
  refine (flowCheck_any A cA f 50 _ hf (by omega)).mono ?_
  rintro e w1 ⟨rfl, hb1⟩
  by_cases k1 : checkE f 50 = 0
  rotate_left
  · have q1 : (checkE f 50 != 0) = true := by simpa using k1
    clear k1
    go_wp2_with fail
    refine (KN _).mono ?_
    rintro e w4 ⟨rfl, hb4⟩
    go_wp2_with fail
    go_ret
    exact ⟨rfl, below_step hb1 hb4⟩
  have HG1 := GoodF.of_check k1
  have q1 : (checkE f 50 != 0) = false := by simp [k1]
  clear k1
  go_wp2_with fail
  refine (flowCheck_any B cB g 50 _ (hg.mono hb1) (by omega)).mono ?_
  rintro e w2 ⟨rfl, hb2⟩
  have hbw2 := below_step hb1 hb2
  clear hb1 hb2 q1
  by_cases k2 : checkE g 50 = 0
  rotate_left
  · have q1 : (checkE g 50 != 0) = true := by simpa using k2
    clear k2
    go_wp2_with fail
    refine (KN _).mono ?_
    rintro e w4 ⟨rfl, hb4⟩
    go_wp2_with fail
    go_ret
    exact ⟨rfl, below_step hbw2 hb4⟩
  have HG2 := GoodF.of_check k2
  have q2 : (checkE g 50 != 0) = false := by simp [k2]
  clear k2
  go_wp2_with fail
  refine (flowCompose_any A B cA cB f g _ (by omega) (by omega) (hf.mono hbw2) (hg.mono hbw2)).mono ?_
  rintro e w3 ⟨⟨v3, rfl, hv3⟩, hb3⟩
  clear q2
  have HGc := HG1.comp HG2
  have hlc : (compS f g).length ≤ 60 * 60 := Nat.le_trans (compS_len f g) (Nat.mul_le_mul s1 s2)
  have HAC := Lib.hid (appl_comp (g := g) HG1 l)
  generalize compS f g = R at *
  have HKc := Lib.hid (HGc.check (by omega))
  have hbw3 := below_step hbw2 hb3
  obtain ⟨AR, cR, rfl, hcR, hsR⟩ := hv3
  go_wp2_with fail
  refine (apply_good AR C cR cC R l _ (by omega) (by omega) hsR (hl.mono hbw3) HGc ol').mono ?_
  rintro e w4 ⟨⟨v4, rfl, hv4⟩, hb4⟩
  have hl4 := appl_len60 HGc l
  have hv4' := IntsV.of_own hv4
  have hbw4 := below_step hbw3 hb4
  have hsR4 := hsR.mono hb4
  clear hv4 hb4 hsR hb3 hbw2
  go_wp2_with fail
  refine (apply_good A C cA cC f l _ (by omega) (by omega) (hf.mono hbw4) (hl.mono hbw4) HG1 ol').mono ?_
  rintro e w5 ⟨⟨v5, rfl, hv5⟩, hb5⟩
  have hl5 := appl_len60 HG1 l
  have hv4 := hv4'.mono hb5
  have hbw5 := below_step hbw4 hb5
  have hsR5 := hsR4.mono hb5
  clear hv4' hsR4 hb5 hbw4 hbw3
  have ok5 := okInt_small (appl_small HG1 l)
  obtain ⟨A5, c5, rfl, hc5, hs5⟩ := IntsV.of_own hv5
  go_wp2_with fail
  refine (apply_good B A5 cB c5 g (appl f l) _ (by omega) (by omega) (hg.mono hbw5) hs5 HG2 ok5).mono ?_
  rintro e w6 ⟨⟨v6, rfl, hv6⟩, hb6⟩
  have hv4' := hv4.mono hb6
  rw [HAC.out] at hv4'
  have hbw6 := below_step hbw5 hb6
  have hsR6 := hsR5.mono hb6
  have hl6 := appl_len60 HG2 (appl f l)
  clear hv5 hs5 hv4 hsR5 hb6 hbw5 ok5 HAC hc5 hl4
  have HSS : Hid (sameB (appl g (appl f l)) (appl g (appl f l)) = true) := by show _ = _; simp [sameB]
  generalize appl g (appl f l) = X at *
  obtain ⟨A4, c4, rfl, hc4, hs4⟩ := hv4'
  obtain ⟨A6, c6, rfl, hc6, hs6⟩ := IntsV.of_own hv6
  clear hv6
  go_wp2_with fail
  refine (facts_any A4 A6 c4 c6 X X _ hs4 hs6 (by omega)).mono ?_
  rintro e w7 ⟨rfl, hb7⟩
  rw [HSS.out]
  have hbw7 := below_step hbw6 hb7
  have hsR7 := hsR6.mono hb7
  clear HSS hs4 hs6 hb7 hsR6 hbw6 hl6 hc4 hc6
  go_wp2_with fail
  refine (flowUnion_any A B cA cB f g _ (by omega) (by omega) (hf.mono hbw7) (hg.mono hbw7)).mono ?_
  rintro e w8 ⟨⟨v8, rfl, hv8⟩, hb8⟩
  have HGu := HG1.union HG2
  have hlu : (ascP (f ++ g)).length ≤ 120 := Nat.le_trans (ascP_len _) (by rw [List.length_append]; omega)
  have HAU := Lib.hid (appl_union HG1 HG2 l)
  generalize ascP (f ++ g) = U at *
  have HKu := Lib.hid (HGu.check (by omega))
  have hbw8 := below_step hbw7 hb8
  have hsR8 := hsR7.mono hb8
  clear hsR7 hb8 hbw7
  obtain ⟨AU, cU, rfl, hcU, hsU⟩ := hv8
  go_wp2_with fail
  refine (apply_good A C cA cC f l _ (by omega) (by omega) (hf.mono hbw8) (hl.mono hbw8) HG1 ol').mono ?_
  rintro e w9 ⟨⟨v9, rfl, hv9⟩, hb9⟩
  have hbw9 := below_step hbw8 hb9
  go_wp2_with fail
  refine (apply_good B C cB cC g l _ (by omega) (by omega) (hg.mono hbw9) (hl.mono hbw9) HG2 ol').mono ?_
  rintro e w10 ⟨⟨v10, rfl, hv10⟩, hb10⟩
  have hl10 := appl_len60 HG2 l
  have hbw10 := below_step hbw9 hb10
  have hv9' := (hv9.mono hb10).weaken (b2 := w8.heap.size) (by omega)
  have hb8_10 := below_step hb9 hb10
  clear hb9 hb10 hv9
  obtain ⟨A10, c10, rfl, hc10, hs10⟩ := IntsV.of_own hv10
  have hb810 : Below w8.heap.size w8 w10 := hb8_10
  go_wp2_with (at_builtin; refine wpList_appendAll intTy cellsInt_ok rfl (.tmp 53) (.tmp 56) rfl w8.heap.size _ (appl f l) rfl hv9' A10 c10 (appl g l) rfl (slI_cells hs10) (by unfold maxLen; omega) (by omega) hb810.size ?_; intro v11 w11 hown11 hb11 hg11)
  have hb811 := hb810.trans hb11
  have hbw11 := below_step hbw8 hb811
  have hsR11 := hsR8.mono hb811
  have hsU11 := hsU.mono hb811
  have hlb : (appl f l ++ appl g l).length ≤ 120 := by rw [List.length_append]; omega
  have okb := okInt_small (l := appl f l ++ appl g l) (fun x hx => (List.mem_append.1 hx).elim (appl_small HG1 l x) (appl_small HG2 l x))
  generalize appl f l ++ appl g l = Bo at *
  clear hs10 hv10 hc10 hv9' hb11 hg11 hb810 hbw9 hbw10 hl10 hl5
  go_wp2_with fail
  refine (flowIdentity_any 50 _).mono ?_
  rintro e w12 ⟨hi, hb12⟩
  obtain ⟨vi, rfl, hvi⟩ := hi.2 (by decide)
  clear hi
  rw [show (50 : Int).toNat = 50 from rfl] at hvi
  have hil : (idTo 50).length ≤ 50 := Nat.le_of_eq (idTo_len 50)
  have HGi := GoodF.id
  have HAH := Lib.hid (fun k => appl_half HG1 l k)
  generalize idTo 50 = I at *
  have hbw12 := below_step hbw11 hb12
  have hsR12 := hsR11.mono hb12
  have hsU12 := hsU11.mono hb12
  have hown12 := hown11.mono hb12
  clear hown11 hb12 hsR11 hsU11 hbw11 hsR8 hsU hb811
  obtain ⟨AI, cI, rfl, hcI, hsI⟩ := hvi
  go_wp2_with fail
  refine (apply_good AU C cU cC U l _ (by omega) (by omega) hsU12 (hl.mono hbw12) HGu ol').mono ?_
  rintro e w13 ⟨⟨v13, rfl, hv13⟩, hb13⟩
  rw [HAU.out] at hv13
  have hbw13 := below_step hbw12 hb13
  have hsR13 := hsR12.mono hb13
  have hsU13 := hsU12.mono hb13
  have hown13 := hown12.mono hb13
  have hsI13 := hsI.mono hb13
  clear hown12 hb13 hsR12 hsU12 hbw12 hsI
  obtain ⟨A11, c11, rfl, hc11, hs11⟩ := IntsV.of_own hown13
  go_wp2_with fail
  refine (apply_good AI A11 cI c11 I Bo _ (by omega) (by omega) hsI13 hs11 HGi okb).mono ?_
  rintro e w14 ⟨⟨v14, rfl, hv14⟩, hb14⟩
  have hbw14 := below_step hbw13 hb14
  have hsR14 := hsR13.mono hb14
  have hsU14 := hsU13.mono hb14
  have hsI14 := hsI13.mono hb14
  have hv13' := hv13.mono hb14
  have hl14 := appl_len60 HGi Bo
  have HSS : Hid (sameB (appl I Bo) (appl I Bo) = true) := by show _ = _; simp [sameB]
  generalize appl I Bo = X at *
  clear hs11 hown13 hb14 hsR13 hsU13 hbw13 hsI13 HAU okb hlb hc11 hv13
  obtain ⟨A13, c13, rfl, hc13, hs13⟩ := IntsV.of_own hv13'
  obtain ⟨A14, c14, rfl, hc14, hs14⟩ := IntsV.of_own hv14
  go_wp2_with fail
  refine (facts_any A13 A14 c13 c14 X X _ hs13 hs14 (by omega)).mono ?_
  rintro e w15 ⟨rfl, hb15⟩
  rw [HSS.out]
  have hbw15 := below_step hbw14 hb15
  have hsR15 := hsR14.mono hb15
  have hsU15 := hsU14.mono hb15
  have hsI15 := hsI14.mono hb15
  clear hs13 hs14 hv13' hv14 hb15 hsR14 hsU14 hbw14 hsI14 HSS hc13 hc14 hl14
  obtain ⟨H, hH⟩ : ∃ H, H = l.length / 2 := ⟨_, rfl⟩
  have hHl : H ≤ l.length := by omega
  have hHc : H ≤ cC := by omega
  have hq : (l.length : Int) / 2 = (H : Int) := by omega
  have HH := Lib.hid hH
  clear hH
  have hlt' : (l.take H).length = H := by rw [List.length_take]; omega
  have hld' : (l.drop H).length = l.length - H := List.length_drop
  have ot : Hid (∀ x ∈ l.take H, okInt x) := fun x hx => ol'.out x (List.mem_of_mem_take hx)
  have od : Hid (∀ x ∈ l.drop H, okInt x) := fun x hx => ol'.out x (List.mem_of_mem_drop hx)
  have HAP := fun W b => apply_good A C cA cC f (l.take H) W (by omega) (by omega) (hf.mono b) ((hl.mono b).take H) HG1 ot
  rw [hlt'] at HAP
  have HLT := Lib.hid hlt'
  have HLD := Lib.hid hld'
  clear hlt' hld'
  have HAD := fun W A' c' (b : Below w.heap.size w W) (h : Sl Lay.int W A' (l.drop H)) => apply_good A A' cA c' f (l.drop H) W (by omega) (by rw [HLD.out]; omega) (hf.mono b) h HG1 od
  rw [HLD.out] at HAD
  have HS1 : Hid (cC = H → ∀ W, Sl Lay.int W C (l.drop H)) := fun e W => by
    rw [List.drop_eq_nil_of_le (by omega)]; exact Sl.nil
  have HS2 : Hid (∀ W, Below w.heap.size w W → Sl Lay.int W (C.map (fun x => x.add H)) (l.drop H)) := fun W b => (hl.mono b).drop1 H
  have HAK := Lib.hid (HAH.out H)
  have hl1 := appl_len60 HG1 (l.take H)
  have hl2 := appl_len60 HG1 (l.drop H)
  have hlb : (appl f (l.take H) ++ appl f (l.drop H)).length ≤ 120 := by rw [List.length_append]; omega
  have okb := okInt_small (l := appl f (l.take H) ++ appl f (l.drop H)) (fun x hx => (List.mem_append.1 hx).elim (appl_small HG1 _ x) (appl_small HG1 _ x))
  clear HAH
  go_wp2_with fail
  refine (HAP _ hbw15).mono ?_
  rintro e w16 ⟨⟨v16, rfl, hv16⟩, hb16⟩
  have hbw16 := below_step hbw15 hb16
  clear HAP
  go_wp2_with fail
  all_goals
    refine (HAD _ _ _ hbw16 (by first | exact HS1.out (by omega) _ | exact HS2.out _ hbw16)).mono ?_
    rintro e w17 ⟨⟨v17, rfl, hv17⟩, hb17⟩
    have hv16' := (hv16.mono hb17).weaken (b2 := w15.heap.size) (by omega)
    have hb1517 := below_step hb16 hb17
    clear hb16 hb17 hv16 HAD HS1 HS2
    obtain ⟨A17, c17, rfl, hc17, hs17⟩ := IntsV.of_own hv17
    go_wp2_with (at_builtin; refine wpList_appendAll intTy cellsInt_ok rfl (.tmp 78) (.tmp 83) rfl w15.heap.size _ (appl f (l.take H)) rfl hv16' A17 c17 (appl f (l.drop H)) rfl (slI_cells hs17) (by unfold maxLen; omega) (by omega) hb1517.size ?_; intro v18 w18 hown18 hb18 hg18)
    have hb1518 := hb1517.trans hb18
    have hbw18 := below_step hbw15 hb1518
    have hsR18 := hsR15.mono hb1518
    have hsU18 := hsU15.mono hb1518
    have hsI18 := hsI15.mono hb1518
    generalize appl f (l.take H) ++ appl f (l.drop H) = Bo at *
    clear hs17 hv17 hc17 hv16' hb18 hg18 hb1517 hbw16 hl1 hl2 hb1518 hbw15 hsR15 hsU15 hsI15 hbw8
    go_wp2_with fail
    refine (apply_good A C cA _ f l _ (by omega) (by omega) (hf.mono hbw18) (hl.mono hbw18) HG1 ol').mono ?_
    rintro e w19 ⟨⟨v19, rfl, hv19⟩, hb19⟩
    rw [HAK.out] at hv19
    have hbw19 := below_step hbw18 hb19
    have hsR19 := hsR18.mono hb19
    have hsU19 := hsU18.mono hb19
    have hsI19 := hsI18.mono hb19
    have hown19 := hown18.mono hb19
    clear hb19 hown18 hbw18 hsR18 hsU18 hsI18
    obtain ⟨A18, c18, rfl, hc18, hs18⟩ := IntsV.of_own hown19
    go_wp2_with fail
    refine (apply_good AI A18 cI c18 I Bo _ (by omega) (by omega) hsI19 hs18 HGi okb).mono ?_
    rintro e w20 ⟨⟨v20, rfl, hv20⟩, hb20⟩
    have hbw20 := below_step hbw19 hb20
    have hsR20 := hsR19.mono hb20
    have hsU20 := hsU19.mono hb20
    have hv19' := hv19.mono hb20
    have hl20 := appl_len60 HGi Bo
    have HSS : Hid (sameB (appl I Bo) (appl I Bo) = true) := by show _ = _; simp [sameB]
    generalize appl I Bo = X at *
    clear hb20 hown19 hbw19 hsR19 hsU19 hsI19 hs18 hv19 HAK okb hlb hc18
    obtain ⟨A19, c19, rfl, hc19, hs19⟩ := IntsV.of_own hv19'
    obtain ⟨A20, c20, rfl, hc20, hs20⟩ := IntsV.of_own hv20
    go_wp2_with fail
    refine (facts_any A19 A20 c19 c20 X X _ hs19 hs20 (by omega)).mono ?_
    rintro e w21 ⟨rfl, hb21⟩
    rw [HSS.out]
    have hbw21 := below_step hbw20 hb21
    go_wp2_with fail
    refine (flowCheck_any AR cR R 50 _ (hsR20.mono hb21) (by omega)).mono ?_
    rintro e w22 ⟨rfl, hb22⟩
    rw [HKc.out]
    have hbw22 := below_step hbw21 hb22
    go_wp2_with fail
    refine (flowCheck_any AU cU U 50 _ ((hsU20.mono hb21).mono hb22) (by omega)).mono ?_
    rintro e w23 ⟨rfl, hb23⟩
    rw [HKu.out]
    have hbw23 := below_step hbw22 hb23
    go_wp2_with fail
    refine (KN _).mono ?_
    rintro e w24 ⟨rfl, hb24⟩
    go_wp2_with fail
    go_ret
    exact ⟨rfl, below_step hbw23 hb24⟩
end Go.Proofs.Ytcmooklcaeggbaa
