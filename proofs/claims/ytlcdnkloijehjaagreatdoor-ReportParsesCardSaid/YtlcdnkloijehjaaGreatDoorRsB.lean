/-
  Chapter 47: the reference's reader: words, numbers, lines, counts.
-/
import Derived.Test.YtlcdnkloijehjaaGreatDoorMr4
import Derived.Test.YtlcdnkloijehjaaGreatDoorMr3
namespace Go.Proofs.YtlcdnkloijehjaaGreatDoor
open Go.RowKit
set_option linter.unusedVariables false

set_option maxHeartbeats 1000000 in
theorem refWord47_any (s : ByteArray) (w : World) (hs : s.size ≤ 9223372036854775807) : Calls Tryz.prog 99 #[.string s] w fun e w' => e = .returned (.bool (wdB s)) ∧ w = w' := by
  obtain ⟨r, HR⟩ : ∃ r, Hid (r = wdB s) := ⟨_, Lib.hid rfl⟩
  rw [← HR.out]
  go_enter Tryz.func99, Tryz.ntmps99
  go_wp2_with fail
  go_loop [3] (fun i => ∃ m : Nat, m ≤ s.size ∧ i = .int .i64 m ∧ Hid (∀ j (h : j < s.size), j < m → prtU s[j] = true)) (fun i => s.size - (intOf i).toNat)
  case atStart => exact ⟨0, Nat.zero_le _, rfl, fun i h hi => by omega⟩
  case round =>
    obtain ⟨m, hm, rfl, HN⟩ := hrel
    by_cases hlt : m < s.size
    · have HNO : Hid (prtU s[m] = false → r = false) := fun h => by
        rw [HR.out]
        unfold wdB
        have : (toL s).all prtU = false := by
          rw [Bool.eq_false_iff]
          intro h2
          have := prt_at.1 h2 m hlt
          rw [h] at this
          cases this
        rw [this]
        rfl
      by_cases h1 : (s[m].toNat : Int) < 33
      · have HB : Hid (r = false) := Lib.hid (HNO.out (by unfold prtU; rw [decide_eq_false (by omega)]; rfl))
        go_wp2_with fail
        go_ret
        exact ⟨by rw [HB.out]; rfl, rfl⟩
      by_cases h2 : 126 < (s[m].toNat : Int)
      · have HB : Hid (r = false) := Lib.hid (HNO.out (by unfold prtU; rw [Bool.and_comm, decide_eq_false (by omega)]; rfl))
        go_wp2_with fail
        go_ret
        exact ⟨by rw [HB.out]; rfl, rfl⟩
      have HE := Lib.hid (word_step hlt h1 h2 HN.out)
      go_wp2_with fail
      go_round
      case rel => exact ⟨m + 1, by omega, by go_num, HE⟩
      case measure => simp [intOf]; omega
    · obtain rfl : m = s.size := by omega
      have HA : Hid ((toL s).all prtU = true) := Lib.hid (prt_at.2 (fun i h => HN.out i h h))
      by_cases hz : s.size = 0
      · have hzl : toL s = [] := List.eq_nil_of_length_eq_zero (by rw [toL_len]; exact hz)
        have HB : Hid (r = false) := by show _ = _; rw [HR.out]; unfold wdB; rw [decide_eq_false (by omega), Bool.and_false]
        have hs0 : s.toList = [] := by rw [ByteArray.toList_eq]; exact hzl
        have hse : (s == ⟨#[]⟩) = true := by
          have : s = ⟨#[]⟩ := toL_inj hzl
          rw [this]; rfl
        clear hz hzl
        go_wp2_with fail
        go_ret
        exact ⟨by rw [HB.out]; rfl, rfl⟩
      · have HB : Hid (r = true) := by show _ = _; rw [HR.out]; unfold wdB; rw [HA.out, decide_eq_true (by omega)]; rfl
        have hs0 : s.toList.isEmpty = false := by
          rw [ByteArray.toList_eq]
          cases h : s.data.toList with
          | nil => exact absurd (by rw [← toL_len]; unfold toL; rw [h]; rfl) hz
          | cons a b => rfl
        have hs1 : ¬ s.toList = [] := fun h => by rw [h] at hs0; cases hs0
        clear hz
        go_wp2_with fail
        go_ret
        exact ⟨by rw [HB.out]; rfl, rfl⟩

/-! ### The reader -/
/-- The reader's block; what the lines lie in is as it was in the world wl, in which the text had been split. -/
structure RrS (wl : World) (L : List (List ByteArray)) (A : Option Addr) (c rb I : Nat) (E : Int) (W : World) : Prop where
  bx : Box W rb [.slice A L.length c, .int .i64 I, .int .i64 E] 88
  bel : Below wl.heap.size wl W
  lb : wl.heap.size ≤ rb
  le : I ≤ L.length
theorem RrS.mono {wl : World} {L : List (List ByteArray)} {A : Option Addr} {c rb I : Nat} {E : Int} {W W' : World} (h : RrS wl L A c rb I E W) (hb : Below W.heap.size W W') : RrS wl L A c rb I E W' := ⟨h.bx.mono hb, below_step h.bel hb, h.lb, h.le⟩
theorem Sl.lines_at {w : World} {A : Option Addr} {ls : List (List ByteArray)} (h : Sl Lay.str.slice w A ls) {i : Nat} (hi : i < ls.length) : ∃ (b o : Nat) (A3 : Option Addr) (c3 : Nat), A = some ⟨b, o, none⟩ ∧ b < w.heap.size ∧ w.cell? ⟨b, o + i, none⟩ = some (.slice A3 ls[i].length c3) ∧ ls[i].length ≤ c3 ∧ Sl Lay.str w A3 ls[i] := by
  obtain ⟨b, o, vs, e, hlt, ⟨A3, c3, rfl, hc3, hs3⟩, hc⟩ := h i ls[i] (List.getElem?_eq_getElem hi)
  have := hc 0 _ rfl
  rw [show Lay.str.slice.size = 1 from rfl, Nat.mul_one, Nat.add_zero] at this
  exact ⟨b, o, A3, c3, e, hlt, this, hc3, hs3⟩

/-- What the loop over the digits reckons, from byte k on. -/
theorem rnF_more {s : ByteArray} {k : Nat} {acc : Int} (hk : k < s.size) (h8 : k < 8) : rnF (8 - k) acc ((toL s).drop k) = if digB s[k] then rnF (8 - (k + 1)) (10 * acc + ((s[k].toNat : Int) - 48)) ((toL s).drop (k + 1)) else -1 := by
  rw [List.drop_eq_getElem_cons (by rw [toL_len]; exact hk), show 8 - k = (8 - (k + 1)) + 1 by omega]
  rfl
theorem rnF_end {s : ByteArray} {k : Nat} {acc : Int} (h : k = 8 ∨ k = s.size) : rnF (8 - k) acc ((toL s).drop k) = acc := by
  rcases h with rfl | rfl
  · rfl
  · rw [List.drop_eq_nil_of_le (by rw [toL_len]; exact Nat.le_refl _)]
    cases 8 - s.size <;> rfl

/-! ### Numbers -/
theorem rnF_numP (x : ByteArray) (m : Int) (h : m = rnF 8 0 (toL x)) : numP x = if m < 0 ∨ 1000000 < m ∨ dg m ≠ toL x then none else some m := by rw [h, rnF_num]
def NumQ (wl : World) (L : List (List ByteArray)) (A : Option Addr) (c rb I : Nat) (E : Int) (x : ByteArray) (W : World) (e : Ending) (w' : World) : Prop :=
  (E ≠ 0 ∧ e = .returned (.int .i64 0) ∧ Below W.heap.size W w') ∨
  (E = 0 ∧ numP x = none ∧ e = .returned (.int .i64 0) ∧ RrS wl L A c rb (I - 1) 2 w' ∧ W.grownBy w' (some rb)) ∨
  (E = 0 ∧ ∃ n, numP x = some n ∧ e = .returned (.int .i64 n) ∧ Below W.heap.size W w')
set_option maxHeartbeats 4000000 in
set_option maxRecDepth 100000 in
theorem refNumber_any {wl : World} {L : List (List ByteArray)} {A : Option Addr} {c rb I : Nat} {E : Int} (x : ByteArray) (W : World) (hr : RrS wl L A c rb I E W) (hI : E = 0 → 1 ≤ I) (hL : L.length ≤ 2000000) (hx : x.size ≤ 2000000) :
    Calls Tryz.prog 80 #[.pointer (some ⟨rb, 0, none⟩), .string x] W fun e w' => NumQ wl L A c rb I E x W e w' := by
  obtain ⟨m, HM⟩ : ∃ m, Hid (m = rnF 8 0 (toL x)) := ⟨_, Lib.hid rfl⟩
  have HNP := Lib.hid (rnF_numP x m HM.out)
  have hle := hr.le
  have HFIN : Hid (1 ≤ I → ∀ w1, Below W.heap.size W w1 → RrS wl L A c rb (I - 1) 2 ((w1.setCell ⟨rb, 2, none⟩ (.int .i64 2)).setCell ⟨rb, 1, none⟩ (.int .i64 ((I : Int) - 1))) ∧ W.grownBy ((w1.setCell ⟨rb, 2, none⟩ (.int .i64 2)).setCell ⟨rb, 1, none⟩ (.int .i64 ((I : Int) - 1))) (some rb)) := fun hI1 w1 h => ⟨⟨by
    have h2 := ((hr.bx.mono h).set 2 (.int .i64 2)).set 1 (.int .i64 ((I : Int) - 1))
    rw [show ((I - 1 : Nat) : Int) = (I : Int) - 1 by omega]
    exact h2, (below_step hr.bel h).grown (grown_set2 _ _ _ _ _ _) (below_step hr.bel h).size (fun k hk => by injection hk with hk; subst hk; exact hr.lb), hr.lb, by omega⟩, grown_trans (grown_below h _) (grown_set2 _ _ _ _ _ _)⟩
  have bx := hr.bx
  have hI2 : (I : Int) ≤ 2000000 := by omega
  clear hr
  go_enter Tryz.func80, Tryz.ntmps80
  go_upto_block 0 with fail
  go_cut [5] (fun v5 wx => v5 = .int .i64 m ∧ W = wx)
  case first =>
    go_wp2_with fail
    go_loop [5, 6] (fun v5 v6 => ∃ (k : Nat) (acc : Int), k ≤ 8 ∧ k ≤ x.size ∧ v6 = .int .i64 k ∧ v5 = .int .i64 acc ∧ 0 ≤ acc ∧ acc + 1 ≤ ((10 ^ k : Nat) : Int) ∧ Hid (m = rnF (8 - k) acc ((toL x).drop k))) (fun v5 v6 => 8 - (intOf v6).toNat)
    case atStart => exact ⟨0, 0, by omega, Nat.zero_le _, rfl, rfl, by omega, by simp, by rw [List.drop_zero]; exact HM.out⟩
    case round =>
      clear HM HNP HFIN
      obtain ⟨k, acc, hk8, hks, rfl, rfl, ha0, ha1, HK⟩ := hrel
      by_cases hks2 : k < x.size
      · by_cases hk82 : k < 8
        · have HMO := Lib.hid (HK.out.trans (rnF_more hks2 hk82))
          have hp1 : (10 : Nat) ^ (k + 1) = 10 * 10 ^ k := by rw [Nat.pow_succ]; omega
          have hp2 : (10 : Nat) ^ k ≤ 10 ^ 7 := Nat.pow_le_pow_right (by omega) (by omega)
          by_cases h1 : (x[k].toNat : Int) < 48
          · have HB : Hid (m = -1) := by
              show _ = _
              rw [HMO.out, if_neg]
              intro h
              have := digB_iff.1 h
              omega
            clear HMO HK hp1 hp2
            go_wp2_with fail
            go_meet
            exact ⟨by rw [HB.out], rfl⟩
          by_cases h2 : 57 < (x[k].toNat : Int)
          · have HB : Hid (m = -1) := by
              show _ = _
              rw [HMO.out, if_neg]
              intro h
              have := digB_iff.1 h
              omega
            clear HMO HK hp1 hp2
            go_wp2_with fail
            go_meet
            exact ⟨by rw [HB.out], rfl⟩
          have HN : Hid (m = rnF (8 - (k + 1)) (10 * acc + ((x[k].toNat : Int) - 48)) ((toL x).drop (k + 1))) := by
            show _ = _
            rw [HMO.out, if_pos (digB_iff.2 (by omega))]
          have h48 : (48 : Int) ≤ x[k].toNat := by omega
          have h57 : (x[k].toNat : Int) ≤ 57 := by omega
          have hacc : acc ≤ 10000000 := by omega
          have hnb : 10 * acc + ((x[k].toNat : Int) - 48) + 1 ≤ ((10 ^ (k + 1) : Nat) : Int) := by rw [hp1]; omega
          clear HMO HK hp1 hp2 ha1 h1 h2
          go_wp2_with fail
          go_round
          case rel => exact ⟨k + 1, 10 * acc + ((x[k].toNat : Int) - 48), by omega, by omega, by go_num, by go_num, by omega, hnb, HN⟩
          case measure => simp [intOf]; omega
        · obtain rfl : k = 8 := by omega
          have HB : Hid (m = acc) := by show _ = _; rw [HK.out]; exact rnF_end (Or.inl rfl)
          clear HK ha1
          go_wp2_with fail
          go_meet
          exact ⟨by rw [HB.out], rfl⟩
      · obtain rfl : k = x.size := by omega
        have HB : Hid (m = acc) := by show _ = _; rw [HK.out]; exact rnF_end (Or.inr rfl)
        clear HK ha1
        go_wp2_with fail
        go_meet
        exact ⟨by rw [HB.out], rfl⟩
  case rest =>
  obtain ⟨rfl, rfl⟩ := hcut
  clear HM
  have c1 := bx.cell 1 rfl
  have c2 := bx.cell 2 rfl
  have f1 := bx.free 1
  have f2 := bx.free 2
  have cl := bx.lt
  by_cases hE : E = 0
  case neg =>
    have tE : (E == 0) = false := by simpa using hE
    have tE2 : (E != 0) = true := by simpa using hE
    have HE := Lib.hid hE
    clear hE
    go_wp2_with fail
    go_ret
    exact Or.inl ⟨HE.out, rfl, Below.refl _ _⟩
  subst hE
  have hI1 := hI rfl
  have hI3 : (1 : Int) ≤ I := by omega
  have HFIN := Lib.hid (HFIN.out hI1)
  by_cases g1 : m < 0
  · have HN : Hid (numP x = none) := by show _ = _; rw [HNP.out, if_pos (Or.inl g1)]
    go_wp2_with fail
    go_ret
    exact Or.inr (Or.inl ⟨rfl, HN.out, rfl, HFIN.out _ (Below.refl _ _)⟩)
  by_cases g2 : 1000000 < m
  · have HN : Hid (numP x = none) := by show _ = _; rw [HNP.out, if_pos (Or.inr (Or.inl g2))]
    go_wp2_with fail
    go_ret
    exact Or.inr (Or.inl ⟨rfl, HN.out, rfl, HFIN.out _ (Below.refl _ _)⟩)
  have HD := Lib.hid (digits_any m W ⟨by omega, by omega⟩)
  have HEQ : Hid (((bsOf (dg m)).toList == x.toList) = decide (dg m = toL x)) := by
    show _ = _
    rw [ByteArray.toList_eq, ByteArray.toList_eq]
    show (dg m == toL x) = _
    by_cases h : dg m = toL x
    · rw [decide_eq_true h]; simpa using h
    · rw [decide_eq_false h]; simpa using h
  obtain ⟨D, HDD⟩ : ∃ D, Hid (D = bsOf (dg m)) := ⟨_, Lib.hid rfl⟩
  rw [← HDD.out] at HD HEQ
  by_cases g3 : dg m = toL x
  · have HN : Hid (numP x = some m) := by show _ = _; rw [HNP.out, if_neg (fun h => by rcases h with h | h | h; exact g1 h; exact g2 h; exact h g3)]
    have t3 : (D.toList == x.toList) = true := by rw [HEQ.out, decide_eq_true g3]
    clear g3 HEQ HDD HFIN
    go_wp2_with fail
    refine HD.out.mono ?_
    rintro e w2 ⟨rfl, hb2⟩
    have bx1 := bx.mono hb2
    clear c1 c2 f1 f2 cl
    have c2 := bx1.cell 2 rfl
    have cl := bx1.lt
    go_wp2_with fail
    go_ret
    exact Or.inr (Or.inr ⟨rfl, m, HN.out, rfl, hb2⟩)
  · have HN : Hid (numP x = none) := by show _ = _; rw [HNP.out, if_pos (Or.inr (Or.inr g3))]
    have t3 : (D.toList == x.toList) = false := by rw [HEQ.out, decide_eq_false g3]
    clear g3 HEQ HDD
    go_wp2_with fail
    refine HD.out.mono ?_
    rintro e w2 ⟨rfl, hb2⟩
    have bx1 := bx.mono hb2
    clear c1 c2 f1 f2 cl
    have c1 := bx1.cell 1 rfl
    have c2 := bx1.cell 2 rfl
    have f1 := bx1.free 1
    have f2 := bx1.free 2
    have cl := bx1.lt
    go_wp2_with fail
    go_ret
    exact Or.inr (Or.inl ⟨rfl, HN.out, rfl, HFIN.out _ hb2⟩)

/-! ### A line -/
def LineQ (wl : World) (L : List (List ByteArray)) (A : Option Addr) (c rb I : Nat) (E : Int) (nm : List UInt8) (n : Nat) (W : World) (e : Ending) (w' : World) : Prop :=
  (E ≠ 0 ∧ e = .returned (.slice none 0 0) ∧ W = w') ∨
  (E = 0 ∧ (wordsP L I nm n).1 ≠ 0 ∧ e = .returned (.slice none 0 0) ∧ RrS wl L A c rb I (wordsP L I nm n).1 w' ∧ W.grownBy w' (some rb)) ∨
  (E = 0 ∧ (wordsP L I nm n).1 = 0 ∧ ∃ A3 c3 l, (wordsP L I nm n).2 = l ∧ l ∈ L ∧ l.length = n ∧ e = .returned (.slice A3 l.length c3) ∧ Sl Lay.str wl A3 l ∧ RrS wl L A c rb (I + 1) 0 w' ∧ W.grownBy w' (some rb))
set_option maxHeartbeats 4000000 in
set_option maxRecDepth 100000 in
theorem refLine_any {wl : World} {L : List (List ByteArray)} {A : Option Addr} {c rb I : Nat} {E : Int} (nm : ByteArray) (n : Nat) (W : World) (hr : RrS wl L A c rb I E W) (hs : Sl Lay.str.slice wl A L) (hL : L.length ≤ 2000000) (hsm : Hid (∀ l ∈ L, l.length ≤ 2000000 ∧ ∀ x ∈ l, x.size ≤ 2000000)) (hn0 : 1 ≤ n) (hn : n ≤ 100) :
    Calls Tryz.prog 79 #[.pointer (some ⟨rb, 0, none⟩), .string nm, .int .i64 n] W fun e w' => LineQ wl L A c rb I E (toL nm) n W e w' := by
  have bx := hr.bx
  have c0 := bx.cell 0 rfl
  have c1 := bx.cell 1 rfl
  have c2 := bx.cell 2 rfl
  have f1 := bx.free 1
  have f2 := bx.free 2
  have cl := bx.lt
  have hle := hr.le
  have HERR : Hid (∀ E' w1, Below W.heap.size W w1 → RrS wl L A c rb I E' (w1.setCell ⟨rb, 2, none⟩ (.int .i64 E')) ∧ W.grownBy (w1.setCell ⟨rb, 2, none⟩ (.int .i64 E')) (some rb)) := fun E' w1 h => ⟨⟨(bx.mono h).set 2 _, (below_step hr.bel h).grown (grown_set _ _ _ _) (below_step hr.bel h).size (fun k hk => by injection hk with hk; subst hk; exact hr.lb), hr.lb, hr.le⟩, grown_trans (grown_below h _) (grown_set _ _ _ _)⟩
  have HNEXT : Hid (I < L.length → E = 0 → ∀ w1, Below W.heap.size W w1 → RrS wl L A c rb (I + 1) 0 (w1.setCell ⟨rb, 1, none⟩ (.int .i64 ((I : Int) + 1))) ∧ W.grownBy (w1.setCell ⟨rb, 1, none⟩ (.int .i64 ((I : Int) + 1))) (some rb)) := fun h hE w1 hb => ⟨⟨by
    have h2 := (bx.mono hb).set 1 (.int .i64 ((I : Int) + 1))
    rw [hE] at h2
    exact h2, (below_step hr.bel hb).grown (grown_set _ _ _ _) (below_step hr.bel hb).size (fun k hk => by injection hk with hk; subst hk; exact hr.lb), hr.lb, h⟩, grown_trans (grown_below hb _) (grown_set _ _ _ _)⟩
  have hbel := hr.bel
  clear hr
  go_enter Tryz.func79, Tryz.ntmps79
  by_cases hE : E = 0
  case neg =>
    have tE2 : (E != 0) = true := by simpa using hE
    have HE := Lib.hid hE
    clear hE HNEXT HERR
    go_wp2_with fail
    go_ret
    exact Or.inl ⟨HE.out, rfl, rfl⟩
  subst hE
  by_cases hI : I < L.length
  case neg =>
    have hIe : ((I : Int) == (L.length : Int)) = true := by simp; omega
    have HW : Hid ((wordsP L I (toL nm) n).1 = 21) := by
      show _ = _
      unfold wordsP
      rw [List.getElem?_eq_none (by omega)]
    clear HNEXT hI
    go_wp2_with fail
    refine wp_region_later (by kernel_rfl) (by kernel_rfl) ?_
    repeat (go_big_quiet_step (fail))
    refine wpQuiet_nil ?_
    rintro _ ⟨z, rfl⟩
    have bx1 := bx.mono z.h
    have HX := Lib.hid (HERR.out 21 z.W z.h)
    clear c0 c1 c2 f1 f2 cl
    have c2 := bx1.cell 2 rfl
    have f2 := bx1.free 2
    have cl := bx1.lt
    go_wp2_with fail
    go_ret
    exact Or.inr (Or.inl ⟨rfl, by rw [HW.out]; decide, rfl, by rw [HW.out]; exact HX.out⟩)
  have hIe : ((I : Int) == (L.length : Int)) = false := by simp; omega
  obtain ⟨b, o, A3, c3, rfl, hb, d0, hc3, hs3⟩ := hs.lines_at hI
  have HWP : Hid (wordsP L I (toL nm) n = if lineOk (toL nm) n L[I] then (0, L[I]) else (2, [])) := by
    show _ = _
    unfold wordsP
    rw [List.getElem?_eq_getElem hI]
  have HMEM : Hid (L[I] ∈ L) := List.getElem_mem hI
  have HSM := Lib.hid (hsm.out L[I] (List.getElem_mem hI))
  have d1 := keptC d0 hb hbel
  have hb1 : b < W.heap.size := Nat.lt_of_lt_of_le hb hbel.size
  have HNX := Lib.hid (HNEXT.out hI rfl)
  generalize L[I] = l at *
  have hll := HSM.out.1
  clear HNEXT d0
  have hI2 : (I : Int) ≤ 2000000 := by omega
  have hI3 : (I : Int) < (L.length : Int) := by omega
  go_wp2_with fail
  refine wp_region_later (by kernel_rfl) (by kernel_rfl) ?_
  repeat (go_big_quiet_step (fail))
  refine wpQuiet_nil ?_
  rintro _ ⟨z, rfl⟩
  have bx1 := bx.mono z.h
  have d2 := keptC d1 hb1 z.h
  have hb2 : b < z.W.heap.size := Nat.lt_of_lt_of_le hb1 z.h.size
  clear c0 c1 c2 f1 f2 cl d1
  have c0 := bx1.cell 0 rfl
  have c1 := bx1.cell 1 rfl
  have cl := bx1.lt
  go_wp2_with fail
  refine wp_region_later (by kernel_rfl) (by kernel_rfl) ?_
  repeat (go_big_quiet_step (fail))
  refine wpQuiet_nil ?_
  rintro _ ⟨y, rfl⟩
  have hbW := below_step z.h y.h
  obtain ⟨W2, hW2⟩ : ∃ W2, W2 = y.W := ⟨_, rfl⟩
  rw [← hW2] at hbW ⊢
  clear hW2
  clear bx1 c0 c1 cl d2 hb2 y
  clear z hb1
  have bx1 := bx.mono hbW
  have c1 := bx1.cell 1 rfl
  have c2 := bx1.cell 2 rfl
  have f1 := bx1.free 1
  have f2 := bx1.free 2
  have cl := bx1.lt
  have hsW := hs3.mono (below_step hbel hbW)
  have HBAD : Hid (lineOk (toL nm) n l = false → ∀ w1, Below W.heap.size W w1 → LineQ wl L (some ⟨b, o, none⟩) c rb I 0 (toL nm) n W (.returned (.slice none 0 0)) (w1.setCell ⟨rb, 2, none⟩ (.int .i64 2))) := fun h w1 hw => by
    have e1 : wordsP L I (toL nm) n = (2, []) := by rw [HWP.out, h]; rfl
    exact Or.inr (Or.inl ⟨rfl, by rw [e1]; decide, rfl, by rw [e1]; exact HERR.out 2 w1 hw⟩)
  by_cases hlen : l.length = n
  case neg =>
    have HX := Lib.hid (HBAD.out (by unfold lineOk; rw [decide_eq_false hlen]; rfl) W2 hbW)
    have t1 : ((l.length : Int) != (n : Int)) = true := by simp; omega
    clear HBAD hlen HNX HERR
    go_wp2_with fail
    go_ret
    exact HX.out
  have t1 : ((l.length : Int) != (n : Int)) = false := by simp; omega
  have h0l : 0 < l.length := by omega
  obtain ⟨b3, o3, rfl, hb3, e0⟩ := hsW.str_at h0l
  have HD0 : Hid (toL (l.headD nilB) = toL l[0]) := by
    show _ = _
    cases l with
    | nil => simp at h0l
    | cons x r => rfl
  rw [Nat.add_zero] at e0
  by_cases hnm : toL l[0] = toL nm
  case neg =>
    have HX := Lib.hid (HBAD.out (by unfold lineOk; rw [HD0.out, decide_eq_false hnm, Bool.and_false]; rfl) W2 hbW)
    have t2 : (l[0].toList == nm.toList) = false := by
      rw [beq_eq_false_iff_ne]
      intro h
      rw [ByteArray.toList_eq, ByteArray.toList_eq] at h
      exact hnm h
    have hl0 : (0 : Int) < l.length := by omega
    clear HBAD hnm HNX HERR HD0 hlen
    go_wp2_with fail
    go_ret
    exact HX.out
  have t2 : (l[0].toList == nm.toList) = true := by
    rw [beq_iff_eq, ByteArray.toList_eq, ByteArray.toList_eq]
    exact hnm
  have HOKL : Hid (lineOk (toL nm) n l = l.all wdB) := by
    show _ = _
    unfold lineOk
    rw [HD0.out, decide_eq_true hlen, decide_eq_true hnm]
    rfl
  have hl0 : (0 : Int) < l.length := by omega
  clear hnm HD0
  have HL := Lib.hid hlen
  clear hlen
  go_wp2_with fail
  go_loop [8] (fun i => ∃ m : Nat, m ≤ l.length ∧ i = .int .i64 m ∧ Hid ((l.take m).all wdB = true)) (fun i => l.length - (intOf i).toNat)
  case atStart => exact ⟨0, Nat.zero_le _, rfl, Lib.hid rfl⟩
  case round =>
    obtain ⟨m, hm, rfl, HA⟩ := hrel
    by_cases hlt : m < l.length
    · obtain ⟨b', o', ez, hb', d0⟩ := hsW.str_at hlt
      injection ez with ez
      injection ez with z1 z2
      subst z1 z2
      have HC := Lib.hid (refWord47_any l[m] W2 (by have := HSM.out.2 _ (List.getElem_mem hlt); omega))
      have HS := Lib.hid (allT_succ (f := wdB) hlt)
      have HNO : Hid (wdB l[m] = false → l.all wdB = false) := fun h => by
        rw [Bool.eq_false_iff]
        intro h2
        have := List.all_eq_true.1 h2 _ (List.getElem_mem hlt)
        rw [h] at this
        cases this
      generalize wdB l[m] = v at *
      cases v with
      | true =>
        have HA2 : Hid ((l.take (m + 1)).all wdB = true) := by show _ = _; rw [HS.out, HA.out]; rfl
        clear HS HA HNO
        go_wp2_with fail
        refine HC.out.mono ?_
        rintro e w2 ⟨rfl, rfl⟩
        go_wp2_with fail
        go_round
        case rel => exact ⟨m + 1, by omega, by go_num, HA2⟩
        case measure => simp [intOf]; omega
      | false =>
        have HX := Lib.hid (HBAD.out (by rw [HOKL.out, HNO.out rfl]) W2 hbW)
        clear HS HA HNO HBAD HNX HERR
        go_wp2_with fail
        refine HC.out.mono ?_
        rintro e w2 ⟨rfl, rfl⟩
        go_wp2_with fail
        go_ret
        exact HX.out
    · obtain rfl : m = l.length := by omega
      rw [List.take_length] at HA
      have HX := Lib.hid (HNX.out W2 hbW)
      have HE1 : Hid (wordsP L I (toL nm) n = (0, l)) := by
        show _ = _
        rw [HWP.out, HOKL.out, HA.out]
        rfl
      clear HNX HERR HBAD HOKL HWP
      go_wp2_with fail
      go_ret
      exact Or.inr (Or.inr ⟨rfl, by rw [HE1.out], some ⟨b3, o3, none⟩, c3, l, by rw [HE1.out], HMEM.out, HL.out, rfl, hs3, HX.out⟩)
/-! ### A count -/
def CntQ (wl : World) (L : List (List ByteArray)) (A : Option Addr) (c rb I : Nat) (E : Int) (nm : List UInt8) (W : World) (e : Ending) (w' : World) : Prop :=
  (E ≠ 0 ∧ e = .returned (.int .i64 0) ∧ W = w') ∨
  (E = 0 ∧ e = .returned (.int .i64 (cntP L I nm).2.2) ∧ RrS wl L A c rb (cntP L I nm).1 (cntP L I nm).2.1 w' ∧ W.grownBy w' (some rb))
set_option maxHeartbeats 4000000 in
set_option maxRecDepth 100000 in
theorem refCount_any {wl : World} {L : List (List ByteArray)} {A : Option Addr} {c rb I : Nat} {E : Int} (nm : ByteArray) (W : World) (hr : RrS wl L A c rb I E W) (hs : Sl Lay.str.slice wl A L) (hL : L.length ≤ 2000000) (hsm : Hid (∀ l ∈ L, l.length ≤ 2000000 ∧ ∀ x ∈ l, x.size ≤ 2000000)) :
    Calls Tryz.prog 52 #[.pointer (some ⟨rb, 0, none⟩), .string nm] W fun e w' => CntQ wl L A c rb I E (toL nm) W e w' := by
  have HL := Lib.hid (refLine_any nm 2 W hr hs hL hsm (by omega) (by omega))
  have HP : Hid (cntP L I (toL nm) = if (wordsP L I (toL nm) 2).1 = 0 then (match numP (at0 (wordsP L I (toL nm) 2).2 1) with | some n => (I + 1, 0, n) | none => (I, 2, 0)) else (I, (wordsP L I (toL nm) 2).1, 0)) := rfl
  have bx := hr.bx
  have c2 := bx.cell 2 rfl
  have cl := bx.lt
  unfold CntQ
  obtain ⟨T, HT⟩ : ∃ T, Hid (T = cntP L I (toL nm)) := ⟨_, Lib.hid rfl⟩
  rw [← HT.out] at HP ⊢
  go_enter Tryz.func52, Tryz.ntmps52
  go_wp2_with fail
  refine HL.out.mono ?_
  rintro e w1 (⟨hE, rfl, rfl⟩ | ⟨hE, hw, rfl, hr1, hg1⟩ | ⟨hE, hw, A3, c3, l, hl, hmem, hlen, rfl, hsl, hr1, hg1⟩)
  · have tE2 : (E != 0) = true := by simpa using hE
    have HE := Lib.hid hE
    clear hE
    go_wp2_with fail
    go_ret
    exact Or.inl ⟨HE.out, rfl, rfl⟩
  · have HX : Hid (T = (I, (wordsP L I (toL nm) 2).1, 0)) := by show _ = _; rw [HP.out, if_neg hw]
    have HE := Lib.hid hE
    generalize (wordsP L I (toL nm) 2).1 = q at *
    have tE2 : (q != 0) = true := by simpa using hw
    have bx1 := hr1.bx
    clear c2 cl hw hE HP
    have c2 := bx1.cell 2 rfl
    have cl := bx1.lt
    have HR1 := Lib.hid (And.intro hr1 hg1)
    clear hr1 hg1
    go_wp2_with fail
    go_ret
    exact Or.inr ⟨HE.out, by rw [HX.out]; rfl, by rw [HX.out]; exact HR1.out⟩
  · have HX : Hid (T = match numP (at0 l 1) with | some n => (I + 1, 0, n) | none => (I, 2, 0)) := by show _ = _; rw [HP.out, if_pos hw, hl]
    have HE := Lib.hid hE
    have bx1 := hr1.bx
    have hsl1 := hsl.mono hr1.bel
    obtain ⟨b3, o3, rfl, hb3, e1⟩ := hsl1.str_at (i := 1) (by omega)
    have HA1 : Hid (at0 l 1 = l[1]) := by
      show _ = _
      unfold at0
      rw [List.getD_eq_getElem?_getD, List.getElem?_eq_getElem (by omega)]
      rfl
    have hxs : l[1].size ≤ 2000000 := (hsm.out l hmem).2 _ (List.getElem_mem _)
    have HN := Lib.hid (refNumber_any l[1] w1 hr1 (fun _ => by omega) hL hxs)
    rw [HA1.out] at HX
    generalize l[1] = x at *
    have h1l : (1 : Int) < l.length := by omega
    clear c2 cl hw hE HP HA1 hl hmem
    have c2 := bx1.cell 2 rfl
    have cl := bx1.lt
    have HG1 := Lib.hid (And.intro hr1 hg1)
    clear hr1 hg1
    go_wp2_with fail
    refine HN.out.mono ?_
    rintro e w2 (⟨h0, _⟩ | ⟨_, hnp, rfl, hr2, hg2⟩ | ⟨_, n, hnp, rfl, hb2⟩)
    · exact absurd rfl h0
    · go_wp2_with fail
      go_ret
      rw [hnp] at HX
      exact Or.inr ⟨HE.out, by rw [HX.out]; rfl, by rw [HX.out]; exact ⟨hr2, grown_trans HG1.out.2 hg2⟩⟩
    · go_wp2_with fail
      go_ret
      rw [hnp] at HX
      exact Or.inr ⟨HE.out, by rw [HX.out]; rfl, by rw [HX.out]; exact ⟨HG1.out.1.mono hb2, grown_trans HG1.out.2 (grown_below hb2 _)⟩⟩
end Go.Proofs.YtlcdnkloijehjaaGreatDoor
