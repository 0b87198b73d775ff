/-
  Chapter 47: a search among ascending strings; the strings of one list that are not in another, in the program and in the reference; equal lists.
-/
import Derived.Test.YtlcdnkloijehjaaGreatDoorRtA
import Derived.Test.YtlcdnkloijehjaaGreatDoorRepA
import Derived.Test.YtlcdnkloijehjaaGreatDoorMr4
namespace Go.Proofs.YtlcdnkloijehjaaGreatDoor
open Go.RowKit
set_option linter.unusedVariables false

theorem nanS (s : ByteArray) (w : World) : Calls Tryz.prog 135 #[.string s] w fun e w' => e = .returned (.bool false) ∧ w = w' := by
  have t : (s.toList == s.toList) = true := by simp
  go_enter Tryz.func135, Tryz.ntmps135
  go_wp2_with fail
  go_ret
  exact ⟨rfl, rfl⟩
theorem nanS2 (s : ByteArray) (w : World) : Calls Tryz.prog 103 #[.string s] w fun e w' => e = .returned (.bool false) ∧ w = w' := by
  have t : (s.toList == s.toList) = true := by simp
  go_enter Tryz.func103, Tryz.ntmps103
  go_wp2_with fail
  go_ret
  exact ⟨rfl, rfl⟩
theorem bytesLess_toL (x y : ByteArray) : Op.bytesLess x.toList y.toList = decide (toL x < toL y) := by
  rw [bytesLess_eq]
  have : (toL x < toL y) ↔ x.toList < y.toList := ltS_ltR
  by_cases h : toL x < toL y
  · rw [decide_eq_true h]; exact decide_eq_true (this.1 h)
  · rw [decide_eq_false h]; exact decide_eq_false (fun k => h (this.2 k))
theorem lessS (x y : ByteArray) (w : World) : Calls Tryz.prog 102 #[.string x, .string y] w fun e w' => e = .returned (.bool (decide (toL x < toL y))) ∧ w = w' := by
  have HB := Lib.hid (bytesLess_toL x y)
  generalize decide (toL x < toL y) = v at *
  have hb := HB.out
  go_enter Tryz.func102, Tryz.ntmps102
  go_wp2_with fail
  refine (nanS x _).mono ?_
  rintro e w1 ⟨rfl, rfl⟩
  go_wp2_with fail
  go_ret
  exact ⟨rfl, rfl⟩
def HasQ (b : Bool) (e : Ending) : Prop := ∃ i : Int, e = .returned (.tuple #[.int .i64 i, .bool b])
set_option maxHeartbeats 4000000 in
set_option maxRecDepth 100000 in
theorem bsS_any (m : List ByteArray) (x : ByteArray) (A : Option Addr) (c : Nat) (w : World) (hl : m.length ≤ 4000000000000000000) (hr : Hid (AscS m)) (hs : Sl Lay.str w A m) :
    Calls Tryz.prog 84 #[.slice A m.length c, .string x] w fun e w' => HasQ (memB m x) e ∧ w = w' := by
  obtain ⟨r, HR⟩ : ∃ r, Hid (r = memB m x) := ⟨_, Lib.hid rfl⟩
  rw [← HR.out]
  go_enter Tryz.func84, Tryz.ntmps84
  go_wp2_with fail
  go_loop [7, 8] (fun si sj => ∃ i j : Nat, si = .int .i64 i ∧ sj = .int .i64 j ∧ i ≤ j ∧ j ≤ m.length ∧ Hid (∀ k (hk : k < m.length), k < i → toL m[k] < toL x) ∧ Hid (∀ k (hk : k < m.length), j ≤ k → ¬ toL m[k] < toL x)) (fun si sj => (intOf sj - intOf si).toNat)
  case atStart => exact ⟨0, m.length, rfl, rfl, Nat.zero_le _, Nat.le_refl _, Lib.hid (fun k hk h => absurd h (Nat.not_lt_zero _)), Lib.hid (fun k hk h => absurd hk (by omega))⟩
  case round =>
    obtain ⟨i, j, rfl, rfl, hij, hjm, HLO, HHI⟩ := hrel
    by_cases hlt : i < j
    · have hh : (i + j) / 2 < m.length := by omega
      obtain ⟨b, o, rfl, h1, d0⟩ := hs.str_at hh
      have HC := Lib.hid (lessS m[(i + j) / 2] x w)
      have HM1 := Lib.hid (hr.out.lo (x := x) hh)
      have HM2 := Lib.hid (hr.out.hi (x := x) hh)
      by_cases hg : toL m[(i + j) / 2] < toL x
      · have HLO2 := Lib.hid (HM1.out hg)
        rw [decide_eq_true hg] at HC
        clear HM1 HM2 HLO hg
        go_wp2_with fail
        refine HC.out.mono ?_
        rintro e w1 ⟨rfl, rfl⟩
        go_wp2_with fail
        go_round
        case rel => exact ⟨(i + j) / 2 + 1, j, by go_num, rfl, by omega, hjm, HLO2, HHI⟩
        case measure => simp [intOf]; omega
      · have HHI2 := Lib.hid (HM2.out hg)
        rw [decide_eq_false hg] at HC
        clear HM1 HM2 HHI hg
        go_wp2_with fail
        refine HC.out.mono ?_
        rintro e w1 ⟨rfl, rfl⟩
        go_wp2_with fail
        go_round
        case rel => exact ⟨i, (i + j) / 2, rfl, by go_num, by omega, by omega, HLO, HHI2⟩
        case measure => simp [intOf]; omega
    · obtain rfl : j = i := by omega
      by_cases hi : j < m.length
      · obtain ⟨b, o, rfl, h1, d0⟩ := hs.str_at hi
        have HE := Lib.hid (HR.out.trans (memB_at HLO.out HHI.out hr.out hi))
        have hN := fun W => nanS2 m[j] W
        generalize m[j] = y at *
        cases ht : (y.toList == x.toList) with
        | true =>
          have HE2 : Hid (r = true) := by show _ = _; rw [HE.out, ht]
          clear HE HLO HHI HR hN
          go_wp2_with fail
          go_ret2
          exact ⟨⟨_, by rw [HE2.out]; rfl⟩, rfl⟩
        | false =>
          have HE2 : Hid (r = false) := by show _ = _; rw [HE.out, ht]
          clear HE HLO HHI HR
          have HN := Lib.hid (hN w)
          clear hN
          go_wp2_with fail
          refine HN.out.mono ?_
          rintro e w1 ⟨rfl, rfl⟩
          go_wp2_with fail
          go_ret2
          exact ⟨⟨_, by rw [HE2.out]; rfl⟩, rfl⟩
      · have HE2 : Hid (r = false) := by show _ = _; rw [HR.out]; exact memB_end (fun k hk => HLO.out k hk (by omega))
        clear HLO HHI HR
        go_wp2_with fail
        go_ret2
        exact ⟨⟨_, by rw [HE2.out]; rfl⟩, rfl⟩
def RetSt (w w' : World) (l : List ByteArray) (e : Ending) : Prop := ∃ v, e = .returned v ∧ Own cellsStr 1 w.heap.size 9 w' v l
set_option maxHeartbeats 4000000 in
set_option maxRecDepth 100000 in
theorem minus_any (a b : List ByteArray) (A B : Option Addr) (c d : Nat) (w : World) (hl : a.length ≤ 1600000000000) (hlb : b.length ≤ 1600000000000) (hr : Hid (AscS b)) (ha : Sl Lay.str w A a) (hb : Sl Lay.str w B b) :
    Calls Tryz.prog 55 #[.slice A a.length c, .slice B b.length d] w fun e w' => RetSt w w' (minS a b) e ∧ Below w.heap.size w w' := by
  go_enter Tryz.func55, Tryz.ntmps55
  go_wp2_with fail
  go_loopw [5, 12] (fun v i wr => ∃ k : Nat, k ≤ a.length ∧ i = .int .i64 k ∧ Own cellsStr 1 w.heap.size 9 wr v (minS (a.take k) b) ∧ Below w.heap.size w wr) (fun _ i _ => a.length - (intOf i).toNat)
  case atStart => exact ⟨0, Nat.zero_le _, rfl, Own.nil, Below.refl _ _⟩
  case round =>
    obtain ⟨k, hk, rfl, ho, hbw⟩ := hrel
    obtain ⟨AT, nT, cT, rfl⟩ := own_isSl ho
    have htl := minS_len a b k
    by_cases hlt : k < a.length
    · obtain ⟨b0, o0, rfl, h1, d0⟩ := (ha.mono hbw).str_at hlt
      have HC := Lib.hid (bsS_any b a[k] B d wr (by omega) hr (hb.mono hbw))
      have HY := Lib.hid (minS_yes (a := a) (b := b) hlt)
      have HN := Lib.hid (minS_no (a := a) (b := b) hlt)
      generalize a[k] = x at *
      generalize memB b x = q at *
      cases q with
      | true =>
        have HS := Lib.hid (HN.out rfl)
        clear HY HN
        go_wp2_with fail
        refine HC.out.mono ?_
        rintro e w1 ⟨⟨i, rfl⟩, rfl⟩
        go_wp2_with fail
        go_roundw
        case rel => exact ⟨k + 1, by omega, by go_num, by rw [HS.out]; exact ho, hbw⟩
        case measure => simp [intOf]; omega
      | false =>
        have HS := Lib.hid (HY.out rfl)
        clear HY HN
        go_wp2_with fail
        refine HC.out.mono ?_
        rintro e w1 ⟨⟨i, rfl⟩, rfl⟩
        go_wp2_with (at_builtin; refine wpList_push strsTy cellsStr_ok rfl (.tmp 24) (.tmp 26) rfl w.heap.size _ (minS (a.take k) b) rfl (ho.alloc _) x _ _ rfl (cells_one_new _ _ _) (by unfold maxLen; omega) (by omega) (by have := hbw.size; simp; omega) ?_; intro v1 w1 hown1 hb1; obtain ⟨A1, n1, q1, rfl⟩ := own_isSl hown1)
        go_roundw
        case rel => exact ⟨k + 1, by omega, by go_num, by rw [HS.out]; exact hown1, (bw_alloc hbw).trans hb1⟩
        case measure => simp [intOf]; omega
    · obtain rfl : k = a.length := by omega
      rw [List.take_length] at ho
      go_wp2_with fail
      go_ret
      exact ⟨⟨_, rfl, ho⟩, hbw⟩
set_option maxHeartbeats 4000000 in
set_option maxRecDepth 100000 in
theorem equal_any (l : List ByteArray) (A B : Option Addr) (c d : Nat) (w : World) (hl : l.length ≤ 9223372036854775806) (ha : Sl Lay.str w A l) (hb : Sl Lay.str w B l) :
    Calls Tryz.prog 20 #[.slice A l.length c, .slice B l.length d] w fun e w' => e = .returned (.bool true) ∧ Below w.heap.size w w' := by
  go_enter Tryz.func20, Tryz.ntmps20
  go_wp2_with fail
  go_loopw [5] (fun i wr => ∃ k : Nat, k ≤ l.length ∧ i = .int .i64 k ∧ Below w.heap.size w wr) (fun i _ => l.length - (intOf i).toNat)
  case atStart => exact ⟨0, Nat.zero_le _, rfl, Below.refl _ _⟩
  case round =>
    obtain ⟨k, hk, rfl, hbw⟩ := hrel
    by_cases hlt : k < l.length
    · obtain ⟨b, o, rfl, h1, d0⟩ := (ha.mono hbw).str_at hlt
      obtain ⟨b', o', rfl, h2, e0⟩ := (hb.mono hbw).str_at hlt
      have t1 : (l[k].toList == l[k].toList) = true := by simp
      go_wp2_with fail
      refine wp_region_later (by kernel_rfl) (by kernel_rfl) ?_
      repeat (go_big_quiet_step (fail))
      refine wpQuiet_nil ?_
      rintro _ ⟨x, rfl⟩
      go_wp2_with fail
      go_roundw
      case rel => exact ⟨k + 1, by omega, by go_num, below_step hbw x.h⟩
      case measure => simp [intOf]; omega
    · go_wp2_with fail
      go_ret
      exact ⟨rfl, (by repeat (first | assumption | exact Below.refl _ _ | apply bw_alloc | apply bw_drew | apply bw_drewN | apply bw_later | apply bw_step))⟩
set_option maxHeartbeats 4000000 in
set_option maxRecDepth 100000 in
theorem refMinus_any (a b : List ByteArray) (A B : Option Addr) (c d : Nat) (w : World) (hl : a.length ≤ 1600000000000) (hlb : b.length ≤ 1600000000000) (hra : Hid (AscS a)) (hr : Hid (AscS b)) (ha : Sl Lay.str w A a) (hb : Sl Lay.str w B b) :
    Calls Tryz.prog 57 #[.slice A a.length c, .slice B b.length d] w fun e w' => RetSt w w' (minS a b) e ∧ Below w.heap.size w w' := by
  go_enter Tryz.func57, Tryz.ntmps57
  go_wp2_with fail
  go_loopw [5, 6, 7] (fun v j i wr => ∃ k m : Nat, k ≤ a.length ∧ m ≤ b.length ∧ i = .int .i64 k ∧ j = .int .i64 m ∧ Own cellsStr 1 w.heap.size 9 wr v (minS (a.take k) b) ∧ Hid (∀ (h : k < a.length) q (hq : q < b.length), q < m → toL b[q] < toL a[k]) ∧ Below w.heap.size w wr) (fun _ _ i _ => a.length - (intOf i).toNat)
  case atStart => exact ⟨0, 0, Nat.zero_le _, Nat.zero_le _, rfl, rfl, Own.nil, Lib.hid (fun _ q hq h => absurd h (Nat.not_lt_zero _)), Below.refl _ _⟩
  case round =>
    obtain ⟨k, m, hk, hm, rfl, rfl, ho, HLO, hbw⟩ := hrel
    obtain ⟨AT, nT, cT, rfl⟩ := own_isSl ho
    have htl := minS_len a b k
    by_cases hlt : k < a.length
    · have HLO0 : Hid (∀ q (hq : q < b.length), q < m → toL b[q] < toL a[k]) := HLO.out hlt
      have HY := Lib.hid (minS_yes (a := a) (b := b) hlt)
      have HN := Lib.hid (minS_no (a := a) (b := b) hlt)
      have HNX : Hid (∀ (h : k + 1 < a.length) z, toL z < toL a[k] ∨ z = a[k] → toL z < toL a[k + 1]) := fun h z hz => by
        have h2 := hra.out.at h (show k < k + 1 by omega)
        rcases hz with hz | rfl
        · exact ltL_trans hz h2
        · exact h2
      have haD : ∀ W, Below w.heap.size w W → Sl Lay.str W A a := fun W h => ha.mono h
      obtain ⟨x, hx⟩ : ∃ x, x = a[k] := ⟨_, rfl⟩
      clear HLO
      go_wp2_with fail
      obtain ⟨wo, hwo⟩ : ∃ wo : World, wo = wr := ⟨_, rfl⟩
      rw [← hwo] at ho hbw ⊢
      clear hwo
      go_loopw [6] (fun j wr => ∃ m : Nat, m ≤ b.length ∧ j = .int .i64 m ∧ Hid (∀ q (hq : q < b.length), q < m → toL b[q] < toL a[k]) ∧ Below wo.heap.size wo wr) (fun j _ => b.length - (intOf j).toNat)
      case atStart => exact ⟨m, hm, rfl, HLO0, Below.refl _ _⟩
      case round =>
        clear HLO0 hm
        obtain ⟨m, hm, rfl, HLO0, hbq⟩ := hrel
        have hbq2 := below_step hbw hbq
        obtain ⟨b0, o0, rfl, h1, d0⟩ := (ha.mono hbq2).str_at hlt
        by_cases hmb : m < b.length
        · obtain ⟨b1, o1, rfl, h2, e0⟩ := (hb.mono hbq2).str_at hmb
          have HBL := Lib.hid (bytesLess_toL b[m] a[k])
          by_cases hg : toL b[m] < toL a[k]
          · have HS : Hid (∀ q (hq : q < b.length), q < m + 1 → toL b[q] < toL a[k]) := fun q hq h => by
              by_cases e : q = m
              · subst e; exact hg
              · exact HLO0.out q hq (by omega)
            rw [decide_eq_true hg] at HBL
            have hbl := HBL.out
            clear hg HLO0 HBL
            go_wp2_with fail
            refine wp_region_later (by kernel_rfl) (by kernel_rfl) ?_
            repeat (go_big_quiet_step (fail))
            refine wpQuiet_nil ?_
            rintro _ ⟨z, rfl⟩
            go_wp2_with fail
            go_roundw
            case rel => exact ⟨m + 1, by omega, by go_num, HS, below_step hbq z.h⟩
            case measure => simp [intOf]; omega
          · have HHI := Lib.hid (hr.out.hi (x := a[k]) hmb hg)
            rw [decide_eq_false hg] at HBL
            have hbl := HBL.out
            have HQ := Lib.hid (memB_at HLO0.out HHI.out hr.out hmb)
            have HB0 : Hid (∀ (h : k + 1 < a.length) q (hq : q < b.length), q < m → toL b[q] < toL a[k + 1]) := fun h q hq hqm => HNX.out h _ (Or.inl (HLO0.out q hq hqm))
            have hmE : ((m : Int) == (b.length : Int)) = false := by simp; omega
            clear hg HBL HHI
            cases ht : (b[m].toList == a[k].toList) with
            | true =>
              have HS := Lib.hid (HN.out (by rw [HQ.out, ht]))
              have hno : Own cellsStr 1 w.heap.size 9 wr (.slice AT nT cT) (minS (a.take (k + 1)) b) := by rw [HS.out]; exact ho.mono hbq
              clear HQ HY HN HS
              go_wp2_with fail
              refine wp_region_later (by kernel_rfl) (by kernel_rfl) ?_
              repeat (go_big_quiet_step (fail))
              refine wpQuiet_nil ?_
              rintro _ ⟨z, rfl⟩
              have hbz := below_step hbq2 z.h
              obtain ⟨b0', o0', e1, h1', d0'⟩ := (ha.mono hbz).str_at hlt
              obtain ⟨b1', o1', e2, h2', e0'⟩ := (hb.mono hbz).str_at hmb
              injection e1 with e1
              injection e1 with z1 z2
              injection e2 with e2
              injection e2 with z3 z4
              subst z1 z2 z3 z4
              have hno2 := hno.mono z.h
              clear d0 e0 h1 h2 hno
              go_wp2_with fail
              refine wp_region_later (by kernel_rfl) (by kernel_rfl) ?_
              repeat (go_big_quiet_step (fail))
              refine wpQuiet_nil ?_
              rintro _ ⟨y, rfl⟩
              go_wp2_with fail
              go_roundw
              case rel => exact ⟨k + 1, m, by omega, by omega, by go_num, rfl, hno2.mono y.h, HB0, below_step hbz y.h⟩
              case measure => simp [intOf]; omega
            | false =>
              have HS := Lib.hid (HY.out (by rw [HQ.out, ht]))
              clear HQ HY HN
              go_wp2_with fail
              refine wp_region_later (by kernel_rfl) (by kernel_rfl) ?_
              repeat (go_big_quiet_step (fail))
              refine wpQuiet_nil ?_
              rintro _ ⟨z, rfl⟩
              have hbz := below_step hbq2 z.h
              obtain ⟨b0', o0', e1, h1', d0'⟩ := (ha.mono hbz).str_at hlt
              obtain ⟨b1', o1', e2, h2', e0'⟩ := (hb.mono hbz).str_at hmb
              injection e1 with e1
              injection e1 with z1 z2
              injection e2 with e2
              injection e2 with z3 z4
              subst z1 z2 z3 z4
              clear d0 e0 h1 h2
              go_wp2_with fail
              refine wp_region_later (by kernel_rfl) (by kernel_rfl) ?_
              repeat (go_big_quiet_step (fail))
              refine wpQuiet_nil ?_
              rintro _ ⟨y, rfl⟩
              have hby := below_step hbz y.h
              have ho2 := (ho.mono (below_step hbq z.h)).mono y.h
              obtain ⟨b0', o0', e1, h1, d0⟩ := (ha.mono hby).str_at hlt
              injection e1 with e1
              injection e1 with z1 z2
              subst z1 z2
              clear d0' h1' h2' e0'
              go_wp2_with (at_builtin; refine wpList_push strsTy cellsStr_ok rfl (.tmp 46) (.tmp 51) rfl w.heap.size _ (minS (a.take k) b) rfl (ho2.alloc _) a[k] _ _ rfl (cells_one_new _ _ _) (by unfold maxLen; omega) (by omega) (by have := hby.size; simp; omega) ?_; intro v1 w1 hown1 hb1; obtain ⟨A1, n1, q1, rfl⟩ := own_isSl hown1)
              go_roundw
              case rel => exact ⟨k + 1, m, by omega, by omega, by go_num, rfl, by rw [HS.out]; exact hown1, HB0, (bw_alloc hby).trans hb1⟩
              case measure => simp [intOf]; omega
        · obtain rfl : m = b.length := by omega
          have HQ : Hid (memB b a[k] = false) := memB_end (fun q hq => HLO0.out q hq hq)
          have HS := Lib.hid (HY.out HQ.out)
          have HB0 : Hid (∀ (h : k + 1 < a.length) q (hq : q < b.length), q < b.length → toL b[q] < toL a[k + 1]) := fun h q hq hqm => HNX.out h _ (Or.inl (HLO0.out q hq hqm))
          clear HQ HY HN
          go_wp2_with fail
          refine wp_region_later (by kernel_rfl) (by kernel_rfl) ?_
          repeat (go_big_quiet_step (fail))
          refine wpQuiet_nil ?_
          rintro _ ⟨z, rfl⟩
          have hbz := below_step hbq2 z.h
          go_wp2_with fail
          refine wp_region_later (by kernel_rfl) (by kernel_rfl) ?_
          repeat (go_big_quiet_step (fail))
          refine wpQuiet_nil ?_
          rintro _ ⟨y, rfl⟩
          have hby := below_step hbz y.h
          have ho2 := (ho.mono (below_step hbq z.h)).mono y.h
          obtain ⟨b0', o0', e1, h1', d0'⟩ := (ha.mono hby).str_at hlt
          injection e1 with e1
          injection e1 with z1 z2
          subst z1 z2
          clear d0 h1
          go_wp2_with (at_builtin; refine wpList_push strsTy cellsStr_ok rfl (.tmp 46) (.tmp 51) rfl w.heap.size _ (minS (a.take k) b) rfl (ho2.alloc _) a[k] _ _ rfl (cells_one_new _ _ _) (by unfold maxLen; omega) (by omega) (by have := hby.size; simp; omega) ?_; intro v1 w1 hown1 hb1; obtain ⟨A1, n1, q1, rfl⟩ := own_isSl hown1)
          go_roundw
          case rel => exact ⟨k + 1, b.length, by omega, by omega, by go_num, rfl, by rw [HS.out]; exact hown1, HB0, (bw_alloc hby).trans hb1⟩
          case measure => simp [intOf]; omega
    · obtain rfl : k = a.length := by omega
      rw [List.take_length] at ho
      go_wp2_with fail
      go_ret
      exact ⟨⟨_, rfl, ho⟩, hbw⟩
end Go.Proofs.YtlcdnkloijehjaaGreatDoor
