/-
  Chapter 29: composition is a monoid; the walk of the law FlowMonoid.
-/
import Derived.Test.YtcmooklcaeggbaaFlowT
import Derived.Test.YtcmooklcaeggbaaFlowI
import Derived.Test.YtcmooklcaeggbaaFlowJ
namespace Go.Proofs.Ytcmooklcaeggbaa
open Go.RowKit
set_option linter.unusedVariables false

theorem compS_asc (f g : List (Int × Int)) : Asc ltP (compS f g) := (ascP_spec _).1
theorem flatMap_le {α β : Type} (f : α → List β) (n : Nat) (h : ∀ x, (f x).length ≤ n) : ∀ l : List α, (l.flatMap f).length ≤ l.length * n
  | [] => by simp
  | a :: l => by
    rw [List.flatMap_cons, List.length_append, List.length_cons, Nat.succ_mul]
    have := flatMap_le f n h l
    have := h a
    omega
theorem compS_len (f g : List (Int × Int)) : (compS f g).length ≤ f.length * g.length := by
  unfold compS
  refine Nat.le_trans (ascP_len _) (flatMap_le _ _ (fun x => ?_) f)
  rw [List.length_map]
  unfold withIn
  exact List.length_filter_le _ _
theorem compS_assoc (f g h : List (Int × Int)) : compS (compS f g) h = compS f (compS g h) := by
  refine Asc.ext totP (compS_asc _ _) (compS_asc _ _) fun p => ?_
  rw [compS_mem, compS_mem]
  unfold comps
  simp only [compS_mem]
  unfold comps
  constructor
  · rintro ⟨b, ⟨a, h1, h2⟩, h3⟩; exact ⟨a, h1, b, h2, h3⟩
  · rintro ⟨a, h1, b, h2, h3⟩; exact ⟨b, ⟨a, h1, h2⟩, h3⟩
theorem idTo_mem (m : Nat) (p : Int × Int) : p ∈ idTo m ↔ p.1 = p.2 ∧ 0 ≤ p.1 ∧ p.1 < m := by
  unfold idTo
  rw [List.mem_map]
  constructor
  · rintro ⟨d, hd, rfl⟩
    rw [List.mem_range] at hd
    exact ⟨rfl, by simp, by simp; omega⟩
  · rintro ⟨h1, h2, h3⟩
    refine ⟨p.1.toNat, by rw [List.mem_range]; omega, ?_⟩
    exact Prod.ext (by simp; omega) (by simp; omega)
theorem checkE_good {f : List (Int × Int)} {n : Int} (h : checkE f n = 0) : Asc ltP f ∧ ∀ p ∈ f, 0 ≤ p.1 ∧ p.1 < n ∧ 0 ≤ p.2 ∧ p.2 < n := by
  have hno : ∀ i, i < f.length → badAt f n i = none := by
    by_cases h1 : n < 1 ∨ 1024 < n
    · rw [checkE_range h1] at h; omega
    by_cases h2 : 8192 < f.length
    · rw [checkE_long h1 h2] at h; omega
    suffices ∀ k, k ≤ f.length → ∀ i, i < k → badAt f n i = none from this _ (Nat.le_refl _)
    intro k
    induction k with
    | zero => intro _ i hi; omega
    | succ k ih =>
      intro hk
      have ih := ih (by omega)
      cases hb : badAt f n k with
      | none => exact lt_succ_none ih hb
      | some e =>
        rw [checkE_bad h1 h2 ih hb (by omega)] at h
        subst h
        exfalso
        unfold badAt at hb
        split at hb
        · split at hb
          · simp at hb
          · cases hb
        · simp at hb
  refine ⟨?_, fun p hp => ?_⟩
  · have hstep : ∀ i (hi : i + 1 < f.length), ltP f[i] f[i + 1] = true := fun i hi => (badAt_inv hi (hno _ hi)).2 (by omega)
    refine List.pairwise_iff_getElem.2 fun i j hi hj hij => ?_
    induction j with
    | zero => omega
    | succ j ih =>
      by_cases e : i = j
      · subst e; exact hstep i hj
      · exact totP.trans _ _ _ (ih (by omega) (by omega)) (hstep j hj)
  · obtain ⟨i, hi, rfl⟩ := List.getElem_of_mem hp
    have := (badAt_inv hi (hno _ hi)).1
    simp [fitsB] at this
    omega
theorem compS_idL {f : List (Int × Int)} {m : Nat} (h : Asc ltP f ∧ ∀ p ∈ f, 0 ≤ p.1 ∧ p.1 < (m : Int) ∧ 0 ≤ p.2 ∧ p.2 < (m : Int)) : compS (idTo m) f = f := by
  refine Asc.ext totP (compS_asc _ _) h.1 fun p => ?_
  rw [compS_mem]
  unfold comps
  constructor
  · rintro ⟨b, h1, h2⟩
    rw [idTo_mem] at h1
    have : p = (b, p.2) := Prod.ext h1.1 rfl
    rw [this]; exact h2
  · intro hp
    have := h.2 p hp
    exact ⟨p.1, by rw [idTo_mem]; exact ⟨rfl, this.1, this.2.1⟩, hp⟩
theorem compS_idR {f : List (Int × Int)} {m : Nat} (h : Asc ltP f ∧ ∀ p ∈ f, 0 ≤ p.1 ∧ p.1 < (m : Int) ∧ 0 ≤ p.2 ∧ p.2 < (m : Int)) : compS f (idTo m) = f := by
  refine Asc.ext totP (compS_asc _ _) h.1 fun p => ?_
  rw [compS_mem]
  unfold comps
  constructor
  · rintro ⟨b, h1, h2⟩
    rw [idTo_mem] at h2
    have : p = (p.1, b) := Prod.ext rfl h2.1.symm
    rw [this]; exact h1
  · intro hp
    have := h.2 p hp
    exact ⟨p.2, hp, by rw [idTo_mem]; exact ⟨rfl, this.2.2.1, this.2.2.2⟩⟩

set_option maxHeartbeats 2000000 in
theorem walk_FlowMonoid (w : World) (A : Option Addr) (cA : Nat) (f : List (Int × Int)) (hcA : f.length ≤ cA) (hf : Sl Lay.int2 w A f) (hof : f.length ≤ maxLen ∧ ∀ x ∈ f, I64 x.1 ∧ I64 x.2)
    (B : Option Addr) (cB : Nat) (g : List (Int × Int)) (hcB : g.length ≤ cB) (hg : Sl Lay.int2 w B g) (hog : g.length ≤ maxLen ∧ ∀ x ∈ g, I64 x.1 ∧ I64 x.2)
    (C : Option Addr) (cC : Nat) (h : List (Int × Int)) (hcC : h.length ≤ cC) (hh : Sl Lay.int2 w C h) (hoh : h.length ≤ maxLen ∧ ∀ x ∈ h, I64 x.1 ∧ I64 x.2) :
    Calls Try.prog 6 #[.slice A f.length cA, .slice B g.length cB, .slice C h.length cC] w fun e w' => e = .returned (.bool true) ∧ Below w.heap.size w w' := by
  have hm1 := hof.1
  have hm2 := hog.1
  have hm3 := hoh.1
  unfold maxLen at hm1 hm2 hm3
  clear hof hog hoh
  by_cases s1 : 25 < f.length
  · go_enter Try.func6, Try.ntmps6
    go_wp2_with fail
    go_ret
    exact ⟨rfl, Below.refl _ _⟩
  by_cases s2 : 25 < g.length
  · go_enter Try.func6, Try.ntmps6
    go_wp2_with fail
    go_ret
    exact ⟨rfl, Below.refl _ _⟩
  by_cases s3 : 25 < h.length
  · go_enter Try.func6, Try.ntmps6
    go_wp2_with fail
    go_ret
    exact ⟨rfl, Below.refl _ _⟩
  have s1' : f.length ≤ 25 := by omega
  have s2' : g.length ≤ 25 := by omega
  have s3' : h.length ≤ 25 := by omega
  clear s1 s2 s3
  have KN : ∀ W, Calls Try.prog 14 #[] W fun e w' => e = .returned (.bool true) ∧ Below W.heap.size W w' := knows_any
  go_enter Try.func6, Try.ntmps6
  go_wp2_with fail
  refine (flowCheck_any A cA f 50 _ hf (by omega)).mono ?_
  rintro e w1 ⟨rfl, hb1⟩
  by_cases k1 : checkE f 50 = 0
  · have HK1 := Lib.hid k1
    have q1 : (checkE f 50 != 0) = false := by simp [k1]
    clear k1
    go_wp2_with fail
    refine (flowCheck_any B cB g 50 _ (hg.mono hb1) (by omega)).mono ?_
    rintro e w2 ⟨rfl, hb2⟩
    by_cases k2 : checkE g 50 = 0
    · have q2 : (checkE g 50 != 0) = false := by simp [k2]
      clear k2
      go_wp2_with fail
      refine (flowCheck_any C cC h 50 _ ((hh.mono hb1).mono hb2) (by omega)).mono ?_
      rintro e w3 ⟨rfl, hb3⟩
      have hbw3 := below_step (below_step hb1 hb2) hb3
      by_cases k3 : checkE h 50 = 0
      · have q3 : (checkE h 50 != 0) = false := by simp [k3]
        clear k3
        go_wp2_with fail
        refine (flowIdentity_any 50 _).mono ?_
        rintro e w4 ⟨hi, hb4⟩
        obtain ⟨vi, rfl, hvi⟩ := hi.2 (by decide)
        clear hi
        have HG := Lib.hid (checkE_good HK1.out)
        rw [show (50 : Int).toNat = 50 from rfl] at hvi
        have hil : (idTo 50).length ≤ 50 := Nat.le_of_eq (idTo_len 50)
        have HL := Lib.hid (compS_idL (m := 50) HG.out)
        have HR := Lib.hid (compS_idR (m := 50) HG.out)
        generalize idTo 50 = I at *
        have hbw4 := below_step hbw3 hb4
        obtain ⟨AI, cI, rfl, hcI, hsI⟩ := hvi
        go_wp2_with fail
        refine (flowCompose_any A B cA cB f g _ (by omega) (by omega) (hf.mono hbw4) (hg.mono hbw4)).mono ?_
        rintro e w5 ⟨⟨v5, rfl, hv5⟩, hb5⟩
        have hl5 : (compS f g).length ≤ 625 := Nat.le_trans (compS_len f g) (Nat.mul_le_mul s1' s2')
        have hl6 : (compS g h).length ≤ 625 := Nat.le_trans (compS_len g h) (Nat.mul_le_mul s2' s3')
        have hbw5 := below_step hbw4 hb5
        obtain ⟨A5, c5, rfl, hc5, hs5⟩ := hv5
        go_wp2_with fail
        refine (flowCompose_any A5 C c5 cC (compS f g) h _ (by omega) (by omega) hs5 (hh.mono hbw5)).mono ?_
        rintro e w6 ⟨⟨v6, rfl, hv6⟩, hb6⟩
        have hbw6 := below_step hbw5 hb6
        go_wp2_with fail
        refine (flowCompose_any B C cB cC g h _ (by omega) (by omega) (hg.mono hbw6) (hh.mono hbw6)).mono ?_
        rintro e w7 ⟨⟨v7, rfl, hv7⟩, hb7⟩
        have hbw7 := below_step hbw6 hb7
        obtain ⟨A7, c7, rfl, hc7, hs7⟩ := hv7
        go_wp2_with fail
        refine (flowCompose_any A A7 cA c7 f (compS g h) _ (by omega) (by omega) (hf.mono hbw7) hs7).mono ?_
        rintro e w8 ⟨⟨v8, rfl, hv8⟩, hb8⟩
        have hbw8 := below_step hbw7 hb8
        have hv6' := (hv6.mono hb7).mono hb8
        rw [compS_assoc] at hv6'
        have hl8 : (compS f (compS g h)).length ≤ 25 * 625 := Nat.le_trans (compS_len _ _) (Nat.mul_le_mul s1' hl6)
        have HSS := Lib.hid (sameB_self (compS f (compS g h)))
        generalize compS f (compS g h) = R at *
        clear hv6
        obtain ⟨A6, c6, rfl, hc6, hs6⟩ := hv6'
        obtain ⟨A8, c8, rfl, hc8, hs8⟩ := hv8
        go_wp2_with fail
        refine (flowSame_any A6 A8 c6 c8 R R _ hs6 hs8 (by omega) (by omega)).mono ?_
        rintro e w9 ⟨rfl, hb9⟩
        rw [HSS.out]
        have hbw9 := below_step hbw8 hb9
        have hsI9 := ((((hsI.mono hb5).mono hb6).mono hb7).mono hb8).mono hb9
        clear hs6 hs8 hs7 hs5 HSS hb5 hb6 hb7 hb8 hb9 hbw5 hbw6 hbw7 hbw8 hsI
        have HSF := Lib.hid (sameB_self f)
        go_wp2_with fail
        refine (flowCompose_any AI A cI cA I f _ (by omega) (by omega) hsI9 (hf.mono hbw9)).mono ?_
        rintro e w10 ⟨⟨v10, rfl, hv10⟩, hb10⟩
        rw [HL.out] at hv10
        have hbw10 := below_step hbw9 hb10
        obtain ⟨A10, c10, rfl, hc10, hs10⟩ := hv10
        go_wp2_with fail
        refine (flowSame_any A10 A c10 cA f f _ hs10 (hf.mono hbw10) (by omega) (by omega)).mono ?_
        rintro e w11 ⟨rfl, hb11⟩
        rw [HSF.out]
        have hbw11 := below_step hbw10 hb11
        go_wp2_with fail
        refine (flowCompose_any A AI cA cI f I _ (by omega) (by omega) (hf.mono hbw11) ((hsI9.mono hb10).mono hb11)).mono ?_
        rintro e w12 ⟨⟨v12, rfl, hv12⟩, hb12⟩
        rw [HR.out] at hv12
        have hbw12 := below_step hbw11 hb12
        obtain ⟨A12, c12, rfl, hc12, hs12⟩ := hv12
        go_wp2_with fail
        refine (flowSame_any A12 A c12 cA f f _ hs12 (hf.mono hbw12) (by omega) (by omega)).mono ?_
        rintro e w13 ⟨rfl, hb13⟩
        rw [HSF.out]
        go_wp2_with fail
        refine (KN _).mono ?_
        rintro e w14 ⟨rfl, hb14⟩
        go_wp2_with fail
        go_ret
        exact ⟨rfl, below_step (below_step hbw12 hb13) hb14⟩
      · have q3 : (checkE h 50 != 0) = true := by simpa using k3
        clear k3
        go_wp2_with fail
        refine (KN _).mono ?_
        rintro e w4 ⟨rfl, hb4⟩
        go_wp2_with fail
        go_ret
        exact ⟨rfl, below_step hbw3 hb4⟩
    · have q2 : (checkE g 50 != 0) = true := by simpa using k2
      clear k2
      go_wp2_with fail
      refine (KN _).mono ?_
      rintro e w4 ⟨rfl, hb4⟩
      go_wp2_with fail
      go_ret
      exact ⟨rfl, below_step (below_step hb1 hb2) hb4⟩
  · have q1 : (checkE f 50 != 0) = true := by simpa using k1
    clear k1
    go_wp2_with fail
    refine (KN _).mono ?_
    rintro e w4 ⟨rfl, hb4⟩
    go_wp2_with fail
    go_ret
    exact ⟨rfl, below_step hb1 hb4⟩
end Go.Proofs.Ytcmooklcaeggbaa
