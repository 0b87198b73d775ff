/-
  Chapter 42: the reference's check of a rule; small functions of protocols.
-/
import Derived.Test.YthabojhnliomnaaGreatDoorPolC
namespace Go.Proofs.YthabojhnliomnaaGreatDoor
open Go.RowKit
set_option linter.unusedVariables false

theorem rulE_eq (x : Rul) (hk : x.kind = 1 ∨ x.kind = 2 ∨ x.kind = 3) : rulE x = if !(identB x.cls && identB x.mth && identB x.tag) then 5 else plE x := by
  unfold rulE plE
  rw [if_neg (by omega)]
theorem wordS_known {k : Int} (h : k = 1 ∨ k = 2 ∨ k = 3) : ((wordS k).toList == ([] : List UInt8)) = false ∧ (wordS k).toList.isEmpty = false ∧ (wordS k).toList ≠ [] := by
  have h2 : (wordS k).toList.isEmpty = false := by rcases h with rfl | rfl | rfl <;> kernel_rfl
  exact ⟨by rcases h with rfl | rfl | rfl <;> kernel_rfl, h2, fun e => by rw [e] at h2; cases h2⟩
theorem wordS_none {k : Int} (h : ¬ (k = 1 ∨ k = 2 ∨ k = 3)) : wordS k = ⟨#[]⟩ := by
  unfold wordS
  rw [if_neg (by omega), if_neg (by omega), if_neg (by omega)]
set_option maxRecDepth 100000 in
set_option maxHeartbeats 4000000 in
theorem refRule_any (x : Rul) (A : Option Addr) (c : Nat) (w : World) (hok : Hid (OkRul x)) (hs : Sl Lay.str w A x.pth.fields) :
    Calls Tryz.prog 30 #[.agg #[.int .i64 x.kind, .string x.cls, .string x.mth, .int .i64 x.pth.root, .int .i64 x.pth.n, .slice A x.pth.fields.length c, .bool x.pth.star, .string x.tag]] w fun e w' => e = .returned (.int .i64 (rulE x)) ∧ Below w.heap.size w w' := by
  obtain ⟨r, HR⟩ : ∃ r, Hid (r = rulE x) := ⟨_, Lib.hid rfl⟩
  rw [← HR.out]
  obtain ⟨ok1, ok2, ok3, ok4, ok5⟩ := hok.out
  have bx0 := Box.new w [.int .i64 x.kind, .string x.cls, .string x.mth, .int .i64 x.pth.root, .int .i64 x.pth.n, .slice A x.pth.fields.length c, .bool x.pth.star, .string x.tag] 51
  have hb0 : Below w.heap.size w (w.alloc (.cells #[.int .i64 x.kind, .string x.cls, .string x.mth, .int .i64 x.pth.root, .int .i64 x.pth.n, .slice A x.pth.fields.length c, .bool x.pth.star, .string x.tag] 51)) := (by repeat (first | assumption | exact Below.refl _ _ | apply bw_alloc | apply bw_drew | apply bw_drewN | apply bw_later | apply bw_step))
  go_enter Tryz.func30, Tryz.ntmps30
  go_wp2_with fail
  refine (refWord_any x.kind _).mono ?_
  rintro e w1 ⟨rfl, hb1⟩
  have hbw1 := below_step hb0 hb1
  have bx1 := bx0.mono hb1
  have p1 := bx1.cell 1 rfl
  have pl1 := bx1.lt
  by_cases hk : x.kind = 1 ∨ x.kind = 2 ∨ x.kind = 3
  · obtain ⟨t1, t2, t3⟩ := wordS_known hk
    have HK := Lib.hid (rulE_eq x hk)
    obtain ⟨W, HW⟩ : ∃ W, Hid (W = wordS x.kind) := ⟨_, Lib.hid rfl⟩
    rw [← HW.out] at t1 t2 t3 ⊢
    clear hk
    go_wp2_with fail
    refine (refIdent_any _ _ ok1).mono ?_
    rintro e w2 ⟨rfl, hb2⟩
    have hbw2 := below_step hbw1 hb2
    have bx2 := bx1.mono hb2
    have p2 := bx2.cell 2 rfl
    have pl2 := bx2.lt
    cases i1 : identB x.cls with
    | false =>
      have HB : Hid (r = 5) := by show _ = _; rw [HR.out, HK.out, i1]; rfl
      clear i1
      go_wp2_with fail
      go_ret
      exact ⟨by rw [HB.out]; rfl, hbw2⟩
    | true =>
      go_wp2_with fail
      refine (refIdent_any _ _ ok2).mono ?_
      rintro e w3 ⟨rfl, hb3⟩
      have hbw3 := below_step hbw2 hb3
      have bx3 := bx2.mono hb3
      have p3 := bx3.cell 7 rfl
      have pl3 := bx3.lt
      cases i2 : identB x.mth with
      | false =>
        have HB : Hid (r = 5) := by show _ = _; rw [HR.out, HK.out, i2]; simp
        clear i1 i2
        go_wp2_with fail
        go_ret
        exact ⟨by rw [HB.out]; rfl, hbw3⟩
      | true =>
        go_wp2_with fail
        refine (refIdent_any _ _ ok3).mono ?_
        rintro e w4 ⟨rfl, hb4⟩
        have hbw4 := below_step hbw3 hb4
        have bx4 := bx3.mono hb4
        cases i3 : identB x.tag with
        | false =>
          have HB : Hid (r = 5) := by show _ = _; rw [HR.out, HK.out, i3]; simp
          clear i1 i2 i3
          go_wp2_with fail
          go_ret
          exact ⟨by rw [HB.out]; rfl, hbw4⟩
        | true =>
          have HB : Hid (r = plE x) := by show _ = _; rw [HR.out, HK.out, i1, i2, i3]; rfl
          clear i1 i2 i3
          have q0 := bx4.cell 0 rfl
          have q1 := bx4.cell 1 rfl
          have q2 := bx4.cell 2 rfl
          have q3 := bx4.cell 3 rfl
          have q4 := bx4.cell 4 rfl
          have q5 := bx4.cell 5 rfl
          have q6 := bx4.cell 6 rfl
          have q7 := bx4.cell 7 rfl
          have ql := bx4.lt
          go_wp2_with fail
          refine (refPlace_any x A c _ hok (hs.mono hbw4)).mono ?_
          rintro e w5 ⟨rfl, hb5⟩
          go_wp2_with fail
          go_ret
          exact ⟨by rw [HB.out]; rfl, below_step hbw4 hb5⟩
  · have HB : Hid (r = 12) := by show _ = _; rw [HR.out, rulE, if_pos hk]
    rw [wordS_none hk]
    clear hk
    go_wp2_with fail
    go_ret
    exact ⟨by rw [HB.out]; rfl, hbw1⟩

/-! ### small functions of protocols -/
theorem isState_any (q : Int) (cl : ByteArray) (A1 A4 : Option Addr) (n1 c1 n4 c4 : Nat) (st er : Int) (w : World) (hn : n1 ≤ 9223372036854775807) :
    Calls Tryz.prog 75 #[.agg #[.string cl, .slice A1 n1 c1, .int .i64 st, .int .i64 er, .slice A4 n4 c4], .int .i64 q] w fun e w' => e = .returned (.bool (decide (0 ≤ q) && decide (q < n1))) ∧ Below w.heap.size w w' := by
  by_cases h0 : 0 ≤ q <;> by_cases h1 : q < n1
  all_goals (go_enter Tryz.func75, Tryz.ntmps75; go_wp2_with fail; go_ret; exact ⟨by simp [h0, h1], (by repeat (first | assumption | exact Below.refl _ _ | apply bw_alloc | apply bw_drew | apply bw_drewN | apply bw_later | apply bw_step))⟩)
/-- The index of a word, or -1. -/
def atI (l : List ByteArray) (s : ByteArray) : Int := match l.findIdx? (fun x => x.toList == s.toList) with | some i => (i : Int) | none => -1
theorem atI_at {l : List ByteArray} {s : ByteArray} {k : Nat} (hk : k < l.length) (h : (l[k].toList == s.toList) = true) (hn : ∀ i (h : i < l.length), i < k → (l[i].toList == s.toList) = false) : atI l s = k := by
  unfold atI
  rw [List.findIdx?_eq_some_iff_getElem.2 ⟨hk, h, fun j hj => by rw [hn j (by omega) hj]; simp⟩]
theorem atI_none {l : List ByteArray} {s : ByteArray} (hn : ∀ i (h : i < l.length), (l[i].toList == s.toList) = false) : atI l s = -1 := by
  unfold atI
  rw [List.findIdx?_eq_none_iff.2 fun x hx => by obtain ⟨i, hi, rfl⟩ := List.getElem_of_mem hx; exact hn i hi]
theorem refAt_any (A : Option Addr) (c : Nat) (l : List ByteArray) (s : ByteArray) (w : World) (hl : l.length ≤ 9223372036854775807) (hs : Sl Lay.str w A l) :
    Calls Tryz.prog 79 #[.slice A l.length c, .string s] w fun e w' => e = .returned (.int .i64 (atI l s)) ∧ w = w' := by
  obtain ⟨r, HR⟩ : ∃ r, Hid (r = atI l s) := ⟨_, Lib.hid rfl⟩
  rw [← HR.out]
  go_enter Tryz.func79, Tryz.ntmps79
  go_wp2_with fail
  go_loop [5] (fun i => ∃ k : Nat, k ≤ l.length ∧ i = .int .i64 k ∧ Hid (∀ i (h : i < l.length), i < k → (l[i].toList == s.toList) = false)) (fun i => l.length - (intOf i).toNat)
  case atStart => exact ⟨0, Nat.zero_le _, rfl, fun i h hi => by omega⟩
  case round =>
    obtain ⟨k, hk, rfl, HN⟩ := hrel
    by_cases hlt : k < l.length
    · obtain ⟨b, o, rfl, hb, d0⟩ := hs.str_at hlt
      cases hq : (l[k].toList == s.toList) with
      | true =>
        have HB : Hid (r = k) := by show _ = _; rw [HR.out]; exact atI_at hlt hq HN.out
        go_wp2_with fail
        go_ret
        exact ⟨by rw [HB.out]; rfl, rfl⟩
      | false =>
        have HE : Hid (∀ i (h : i < l.length), i < k + 1 → (l[i].toList == s.toList) = false) := fun i h hi => by
          by_cases e : i = k
          · subst e; exact hq
          · exact HN.out i h (by omega)
        go_wp2_with fail
        go_round
        case rel => exact ⟨k + 1, by omega, by go_num, HE⟩
        case measure => simp [intOf]; omega
    · have HB : Hid (r = -1) := by show _ = _; rw [HR.out]; exact atI_none fun i h => HN.out i h (by omega)
      go_wp2_with fail
      go_ret
      exact ⟨by rw [HB.out]; rfl, rfl⟩
end Go.Proofs.YthabojhnliomnaaGreatDoor
