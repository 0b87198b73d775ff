/-
  Joined (wip/merge.py): RqC, RqD, RqE, RqF, RqG.
-/
import Derived.Test.YtlcdnkloijehjaaGreatDoorMr7
import Derived.Test.YtlcdnkloijehjaaGreatDoorRepT
import Derived.Test.YtlcdnkloijehjaaGreatDoorRepQ
import Derived.Test.YtlcdnkloijehjaaGreatDoorShelfB
import Derived.Test.YtlcdnkloijehjaaGreatDoorRegC
import Derived.Test.YtlcdnkloijehjaaGreatDoorMr2

namespace Go.Proofs.YtlcdnkloijehjaaGreatDoor
open Go.RowKit
set_option linter.unusedVariables false

structure Glp (w : World) : Prop where
  g : Glo w
  ml : ∃ m, w.cell? ⟨0, 0, none⟩ = some (.int .i64 m)
theorem Glp.mono {w w' : World} (h : Glp w) (hb : Below w.heap.size w w') : Glp w' := by
  obtain ⟨h1, m, h2⟩ := h
  exact ⟨h1.mono hb, m, by rw [hb.cell (p := ⟨_, 0, none⟩) (cell_lt h2)]; exact h2⟩
theorem cutS (c : UInt8) (s : ByteArray) (w : World) (hg : Glp w) (hs : s.size ≤ 2000000) : Calls Tryz.prog 74 #[.string s, .string ⟨#[c]⟩] w fun e w' => e = .returned (.tuple #[.string (bsOf (Lib.cut (toL s) [c]).1), .string (bsOf (Lib.cut (toL s) [c]).2.1), .bool (Lib.cut (toL s) [c]).2.2]) ∧ Below w.heap.size w w' := by
  obtain ⟨m, hm⟩ := hg.ml
  refine (Tryz.strings_Cut s ⟨#[c]⟩ m w (by omega) hm).mono ?_
  rintro e w' ⟨rfl, n, rfl⟩
  exact ⟨rfl, below_drewN (Below.refl _ _) n⟩
theorem splitS (c : UInt8) (s : ByteArray) (w : World) (hg : Glp w) (hs : s.size ≤ 2000000) : Calls Tryz.prog 75 #[.string s, .string ⟨#[c]⟩] w fun e w' => e = .returned (.slice (some ⟨w.heap.size, 0, none⟩) ((spl c (toL s)).map bsOf).length ((spl c (toL s)).map bsOf).length) ∧ Box w' w.heap.size (((spl c (toL s)).map bsOf).map Value.string) 9 ∧ Below w.heap.size w w' := by
  obtain ⟨m, hm⟩ := hg.ml
  refine (Tryz.strings_Split s ⟨#[c]⟩ m w (by omega) hm (Nat.le_refl 1)).mono ?_
  rintro e w' ⟨rfl, rfl⟩
  obtain ⟨h1, h2⟩ := splitB_spl c s.size s (Nat.le_refl _)
  have h3 : Lib.splitB ⟨#[c]⟩ 0 (Lib.countB s ⟨#[c]⟩) s = (spl c (toL s)).map bsOf := by
    rw [← h1, List.map_map]
    have : (bsOf ∘ toL) = id := by funext x; exact mk_toL x
    rw [this, List.map_id]
  have h4 : Lib.countB s ⟨#[c]⟩ + 1 = ((spl c (toL s)).map bsOf).length := by rw [List.length_map]; exact h2
  rw [h3, h4]
  exact ⟨rfl, Box.new w (((spl c (toL s)).map bsOf).map Value.string) 9, (by repeat (first | assumption | exact Below.refl _ _ | apply bw_alloc | apply bw_drew | apply bw_drewN | apply bw_later | apply bw_step))⟩
theorem prt_at {s : ByteArray} : (toL s).all prtU = true ↔ ∀ i (h : i < s.size), prtU s[i] = true := all_at
set_option maxHeartbeats 1000000 in
theorem notWord_any (s : ByteArray) (w : World) (hs : s.size ≤ 9223372036854775807) : Calls Tryz.prog 77 #[.string s] w fun e w' => e = .returned (.bool (!wdB s)) ∧ w = w' := by
  obtain ⟨r, HR⟩ : ∃ r, Hid (r = !wdB s) := ⟨_, Lib.hid rfl⟩
  rw [← HR.out]
  go_enter Tryz.func77, Tryz.ntmps77
  go_wp2_with fail
  go_loop [6] (fun i => ∃ m : Nat, m ≤ s.size ∧ i = .int .i64 m ∧ Hid (∀ j (h : j < s.size), j < m → prtU s[j] = true)) (fun i => s.size - (intOf i).toNat)
  case atStart => exact ⟨0, Nat.zero_le _, rfl, fun i h hi => by omega⟩
  case round =>
    obtain ⟨m, hm, rfl, HN⟩ := hrel
    by_cases hlt : m < s.size
    · have HNO : Hid (prtU s[m] = false → r = true) := fun h => by
        rw [HR.out]
        unfold wdB
        have : (toL s).all prtU = false := by
          rw [Bool.eq_false_iff]
          intro h2
          have := prt_at.1 h2 m hlt
          rw [h] at this
          cases this
        rw [this]
        rfl
      by_cases h1 : (s[m].toNat : Int) < 33
      · have HB : Hid (r = true) := Lib.hid (HNO.out (by unfold prtU; rw [decide_eq_false (by omega)]; rfl))
        go_wp2_with fail
        go_ret
        exact ⟨by rw [HB.out]; rfl, rfl⟩
      by_cases h2 : 126 < (s[m].toNat : Int)
      · have HB : Hid (r = true) := Lib.hid (HNO.out (by unfold prtU; rw [Bool.and_comm, decide_eq_false (by omega)]; rfl))
        go_wp2_with fail
        go_ret
        exact ⟨by rw [HB.out]; rfl, rfl⟩
      have HE := Lib.hid (word_step hlt h1 h2 HN.out)
      go_wp2_with fail
      go_round
      case rel => exact ⟨m + 1, by omega, by go_num, HE⟩
      case measure => simp [intOf]; omega
    · obtain rfl : m = s.size := by omega
      have HA : Hid ((toL s).all prtU = true) := Lib.hid (prt_at.2 (fun i h => HN.out i h h))
      by_cases hz : s.size = 0
      · have hzl : toL s = [] := List.eq_nil_of_length_eq_zero (by rw [toL_len]; exact hz)
        have HB : Hid (r = true) := by show _ = _; rw [HR.out]; unfold wdB; rw [decide_eq_false (by omega), Bool.and_false]; rfl
        have hs0 : s.toList = [] := by rw [ByteArray.toList_eq]; exact hzl
        have hse : (s == ⟨#[]⟩) = true := by
          have : s = ⟨#[]⟩ := toL_inj hzl
          rw [this]; rfl
        clear hz hzl
        go_wp2_with fail
        go_ret
        exact ⟨by rw [HB.out]; rfl, rfl⟩
      · have HB : Hid (r = false) := by show _ = _; rw [HR.out]; unfold wdB; rw [HA.out, decide_eq_true (by omega)]; rfl
        have hs0 : s.toList.isEmpty = false := by
          rw [ByteArray.toList_eq]
          cases h : s.data.toList with
          | nil => exact absurd (by rw [← toL_len]; unfold toL; rw [h]; rfl) hz
          | cons a b => rfl
        have hs1 : ¬ s.toList = [] := fun h => by rw [h] at hs0; cases hs0
        clear hz
        go_wp2_with fail
        go_ret
        exact ⟨by rw [HB.out]; rfl, rfl⟩
def RetIx (v : Bool) (e : Ending) : Prop := ∃ k : Int, e = .returned (.int .i64 k) ∧ (0 ≤ k ↔ v = false)
set_option maxHeartbeats 1000000 in
theorem containsNW (l : List ByteArray) (b o c : Nat) (w : World) (hl : l.length ≤ 9223372036854775806) (hok : Hid (∀ x ∈ l, x.size ≤ 9223372036854775807)) (hs : Sl Lay.str w (some ⟨b, o, none⟩) l) :
    Calls Tryz.prog 76 #[.slice (some ⟨b, o, none⟩) l.length c, .func (.func 77) #[] #[]] w fun e w' => e = .returned (.bool (!l.all wdB)) ∧ w = w' := by
  have HI : Hid (Calls Tryz.prog 96 #[.slice (some ⟨b, o, none⟩) l.length c, .func (.func 77) #[] #[]] w fun e w' => RetIx (l.all wdB) e ∧ w = w') := by
    show Calls _ _ _ _ _
    go_enter Tryz.func96, Tryz.ntmps96
    go_wp2_with fail
    go_loop [8] (fun i => ∃ m : Nat, m ≤ l.length ∧ i = .int .i64 m ∧ Hid ((l.take m).all wdB = true)) (fun i => l.length - (intOf i).toNat)
    case atStart => exact ⟨0, Nat.zero_le _, rfl, Lib.hid rfl⟩
    case round =>
      obtain ⟨m, hm, rfl, HA⟩ := hrel
      by_cases hlt : m < l.length
      · obtain ⟨b', o', e0, hb, d0⟩ := hs.str_at hlt
        injection e0 with e0
        injection e0 with z1 z2
        subst z1 z2
        have HC := Lib.hid (notWord_any l[m] w (hok.out _ (List.getElem_mem hlt)))
        have HS := Lib.hid (allT_succ (f := wdB) hlt)
        have HNO : Hid (wdB l[m] = false → l.all wdB = false) := fun h => by
          rw [Bool.eq_false_iff]
          intro h2
          have := List.all_eq_true.1 h2 _ (List.getElem_mem hlt)
          rw [h] at this
          cases this
        generalize wdB l[m] = v at *
        cases v with
        | true =>
          have HA2 : Hid ((l.take (m + 1)).all wdB = true) := by show _ = _; rw [HS.out, HA.out]; rfl
          clear HS HA HNO
          go_wp2_with fail
          refine HC.out.mono ?_
          rintro e w2 ⟨rfl, rfl⟩
          go_wp2_with fail
          go_round
          case rel => exact ⟨m + 1, by omega, by go_num, HA2⟩
          case measure => simp [intOf]; omega
        | false =>
          have HB := Lib.hid (HNO.out rfl)
          clear HS HA HNO
          go_wp2_with fail
          refine HC.out.mono ?_
          rintro e w2 ⟨rfl, rfl⟩
          go_wp2_with fail
          go_ret
          exact ⟨⟨_, rfl, by rw [HB.out]; simp⟩, rfl⟩
      · obtain rfl : m = l.length := by omega
        rw [List.take_length] at HA
        go_wp2_with fail
        go_ret
        exact ⟨⟨_, rfl, by rw [HA.out]; simp⟩, rfl⟩
  generalize l.all wdB = v at *
  go_enter Tryz.func76, Tryz.ntmps76
  go_wp2_with fail
  refine HI.out.mono ?_
  rintro e w2 ⟨⟨k, rfl, hk⟩, rfl⟩
  cases v with
  | true =>
    have hk2 : ¬ 0 ≤ k := by simpa using hk
    have td : decide (0 ≤ k) = false := decide_eq_false hk2
    clear hk
    go_wp2_with fail
    go_ret
    exact ⟨rfl, rfl⟩
  | false =>
    have hk2 : 0 ≤ k := by simpa using hk
    have td : decide (0 ≤ k) = true := decide_eq_true hk2
    clear hk
    go_wp2_with fail
    go_ret
    exact ⟨rfl, rfl⟩
end Go.Proofs.YtlcdnkloijehjaaGreatDoor

namespace Go.Proofs.YtlcdnkloijehjaaGreatDoor
open Go.RowKit
set_option linter.unusedVariables false

theorem bytes_or {w w' : World} {e : TypeId} (h : w' = w ∨ ∃ t, w' = Lib.bytesWorld w e t) : Below w.heap.size w w' := by
  rcases h with rfl | ⟨t, rfl⟩
  · exact Below.refl _ _
  · exact Lib.bytesWorld_below _ _ _
/-- What Atoi returns. -/
def RetAt (l : List UInt8) (e : Ending) : Prop := ∃ (n : Int) (v : Value), e = .returned (.tuple #[.int .i64 n, v]) ∧ ((Lib.atoiAll l = .ok n ∧ v = .nilIface) ∨ ((∀ n, Lib.atoiAll l ≠ .ok n) ∧ ∃ t p, v = .iface t p))
theorem atoi_any (s : ByteArray) (w : World) (hg : Glp w) (hs : s.size ≤ 2000000) : Calls Tryz.prog 78 #[.string s] w fun e w' => RetAt (toL s) e ∧ Below w.heap.size w w' := by
  obtain ⟨t, p, he⟩ := hg.g.es
  obtain ⟨t', p', he'⟩ := hg.g.er
  cases h : Lib.atoiAll (toL s)
  case ok v =>
    refine (Tryz.strconv_Atoi_ok s (by omega) v h w).mono ?_
    rintro e w' ⟨rfl, hb⟩
    exact ⟨⟨v, _, rfl, Or.inl ⟨h, rfl⟩⟩, bytes_or hb⟩
  case range =>
    refine (Tryz.strconv_Atoi_range s (by omega) h _ w he' (Or.inr ⟨t', p', rfl⟩)).mono ?_
    rintro e w' ⟨N, rfl, _, _, hb⟩
    exact ⟨⟨_, _, rfl, Or.inr ⟨(fun n hn => by rw [h] at hn; cases hn), _, _, rfl⟩⟩, hb⟩
  · refine (Tryz.strconv_Atoi_bad s (by omega) (fun n (hn : Lib.atoiAll (toL s) = .ok n) => by rw [h] at hn; cases hn) (fun (hn : Lib.atoiAll (toL s) = .range) => by rw [h] at hn; cases hn) _ w he (Or.inr ⟨t, p, rfl⟩)).mono ?_
    rintro e w' ⟨N, rfl, _, _, hb⟩
    exact ⟨⟨_, _, rfl, Or.inr ⟨(fun n hn => by rw [h] at hn; cases hn), _, _, rfl⟩⟩, hb⟩
/-- The reader at line I with error E. -/
structure RdS (s : ByteArray) (rb I : Nat) (E : Int) (W : World) : Prop where
  bx : Box W rb [.string (bsOf (sfx s I)), .int .i64 ((I : Int) + 1), .int .i64 E] 76
  le : I ≤ (linesW s).length
theorem RdS.mono {s : ByteArray} {rb I : Nat} {E : Int} {W W' : World} (h : RdS s rb I E W) (hb : Below W.heap.size W W') : RdS s rb I E W' := ⟨h.bx.mono hb, h.le⟩
theorem grown_below {w w' : World} (h : Below w.heap.size w w') (row : Option Nat) : w.grownBy w' row := ⟨h.os, h.tape, h.output, h.size, fun k hk _ => h.block k hk⟩
theorem numP_none {s : ByteArray} (h : ∀ n, Lib.atoiAll (toL s) ≠ .ok n) : numP s = none := by
  unfold numP
  split
  · rename_i v hv; exact absurd hv (h v)
  · rfl
theorem numP_bad {s : ByteArray} {n : Int} (h : Lib.atoiAll (toL s) = .ok n) (hn : ¬ (0 ≤ n ∧ n ≤ 1000000 ∧ dg n = toL s)) : numP s = none := by
  unfold numP
  rw [h]
  simp only
  rw [if_neg hn]
set_option maxHeartbeats 2000000 in
theorem number_yes {s : ByteArray} {rb I : Nat} {E : Int} (x : ByteArray) (n : Int) (W : World) (hg : Glp W) (hx : x.size ≤ 2000000) (hn : numP x = some n) :
    Calls Tryz.prog 47 #[.pointer (some ⟨rb, 0, none⟩), .string x] W fun e w' => e = .returned (.int .i64 n) ∧ Below W.heap.size W w' := by
  obtain ⟨h0, h1, h2⟩ := numP_iff.1 hn
  have HI := Lib.hid (fun W' h => itoa_any n W' ⟨by omega, by omega⟩ ((hg.mono h).g))
  have hx2 : bsOf (dg n) = x := by rw [h2]; exact mk_toL x
  rw [hx2] at HI
  have HA := Lib.hid (atoi_any x W hg hx)
  have HB : Hid (Lib.atoiAll (toL x) = .ok n) := by
    obtain ⟨u, rfl⟩ : ∃ u : Nat, n = u := ⟨n.toNat, by omega⟩
    rw [dg_nat] at h2
    show _ = _
    rw [← h2]
    exact atoi_dec (by omega)
  clear h2 hx2 hn
  go_enter Tryz.func47, Tryz.ntmps47
  go_wp2_with fail
  refine HA.out.mono ?_
  rintro e w1 ⟨⟨m, v, rfl, hv⟩, hb1⟩
  rcases hv with ⟨h3, rfl⟩ | ⟨h3, _⟩
  · rw [HB.out] at h3
    injection h3 with h3
    subst h3
    have g1 : ¬ n < 0 := by omega
    have g2 : ¬ 1000000 < n := by omega
    go_wp2_with fail
    refine (HI.out _ hb1).mono ?_
    rintro e w2 ⟨rfl, hb2⟩
    go_wp2_with fail
    go_ret
    exact ⟨rfl, below_step hb1 hb2⟩
  · exact absurd HB.out (h3 n)
set_option maxHeartbeats 2000000 in
theorem number_no {s : ByteArray} {rb I : Nat} {E : Int} (x : ByteArray) (W : World) (hg : Glp W) (hr : RdS s rb I E W) (hx : x.size ≤ 2000000) (hn : numP x = none) :
    Calls Tryz.prog 47 #[.pointer (some ⟨rb, 0, none⟩), .string x] W fun e w' => e = .returned (.int .i64 0) ∧ RdS s rb I 2 w' ∧ W.grownBy w' (some rb) := by
  have HA := Lib.hid (atoi_any x W hg hx)
  have HN := Lib.hid hn
  have hle := hr.le
  have bx := hr.bx
  clear hr hn
  have HFIN : Hid (∀ w1, Below W.heap.size W w1 → RdS s rb I 2 (w1.setCell ⟨rb, 2, none⟩ (.int .i64 2)) ∧ W.grownBy (w1.setCell ⟨rb, 2, none⟩ (.int .i64 2)) (some rb)) := fun w1 h => ⟨⟨(bx.mono h).set 2 _, hle⟩, grown_trans (grown_below h _) (grown_set _ _ _ _)⟩
  go_enter Tryz.func47, Tryz.ntmps47
  go_wp2_with fail
  refine HA.out.mono ?_
  rintro e w1 ⟨⟨m, v, rfl, hv⟩, hb1⟩
  have bx1 := bx.mono hb1
  have c2 := bx1.cell 2 rfl
  have cf := bx1.free 2
  have cl := bx1.lt
  rcases hv with ⟨h3, rfl⟩ | ⟨h3, t, p, rfl⟩
  · by_cases g1 : m < 0
    · go_wp2_with fail
      go_ret
      exact ⟨rfl, HFIN.out _ hb1⟩
    by_cases g2 : 1000000 < m
    · go_wp2_with fail
      go_ret
      exact ⟨rfl, HFIN.out _ hb1⟩
    have HI := Lib.hid (fun W' h => itoa_any m W' ⟨by omega, by omega⟩ ((hg.mono h).g))
    have HNE : Hid (bsOf (dg m) ≠ x) := fun h => by
      have h4 := numP_iff.2 ⟨by omega, by omega, show dg m = toL x by rw [← h]; rfl⟩
      rw [HN.out] at h4
      cases h4
    generalize bsOf (dg m) = D at *
    have hne : (D.toList == x.toList) = false := by rw [beq_eq_false_iff_ne]; exact fun h => HNE.out (toL_inj (by unfold toL; rw [ByteArray.toList_eq, ByteArray.toList_eq] at h; exact h))
    clear bx1 c2 cf cl
    go_wp2_with fail
    refine (HI.out _ hb1).mono ?_
    rintro e w2 ⟨rfl, hb2⟩
    have hb2' := below_step hb1 hb2
    have bx1 := bx.mono hb2'
    have c2 := bx1.cell 2 rfl
    have cf := bx1.free 2
    have cl := bx1.lt
    go_wp2_with fail
    go_ret
    exact ⟨rfl, HFIN.out _ hb2'⟩
  · go_wp2_with fail
    go_ret
    exact ⟨rfl, HFIN.out _ hb1⟩
set_option maxHeartbeats 2000000 in
theorem next_yes {s : ByteArray} {rb I : Nat} (W : World) (hg : Glp W) (hs : s.size ≤ 2000000) (hr : RdS s rb I 0 W) (hI : I < (linesW s).length) :
    Calls Tryz.prog 48 #[.pointer (some ⟨rb, 0, none⟩)] W fun e w' => e = .returned (.tuple #[]) ∧ RdS s rb (I + 1) 0 w' ∧ W.grownBy w' (some rb) := by
  obtain ⟨x, -, hc, -⟩ := cut_due hI
  have hz := sfx_len s I
  have HC := Lib.hid (cutS 10 (bsOf (sfx s I)) W hg (by rw [bsOf_size]; omega))
  rw [toL_bsOf, hc] at HC
  have bx := hr.bx
  clear hc hz hr
  have hI2 : I ≤ 2000000 := by have := linesW_le s; omega
  have HFIN : Hid (∀ w1, Below W.heap.size W w1 → RdS s rb (I + 1) 0 ((w1.setCell ⟨rb, 0, none⟩ (.string (bsOf (sfx s (I + 1))))).setCell ⟨rb, 1, none⟩ (.int .i64 ((I : Int) + 1 + 1))) ∧ W.grownBy ((w1.setCell ⟨rb, 0, none⟩ (.string (bsOf (sfx s (I + 1))))).setCell ⟨rb, 1, none⟩ (.int .i64 ((I : Int) + 1 + 1))) (some rb)) := fun w1 h => ⟨⟨by
    have h2 := ((bx.mono h).set 0 (.string (bsOf (sfx s (I + 1))))).set 1 (.int .i64 ((I : Int) + 1 + 1))
    exact h2, by omega⟩, grown_trans (grown_below h _) (grown_set2 _ _ _ _ _ _)⟩
  generalize bsOf (sfx s (I + 1)) = T at *
  generalize bsOf (sfx s I) = T0 at *
  have c0 := bx.cell 0 rfl
  have c2 := bx.cell 2 rfl
  have cl := bx.lt
  go_enter Tryz.func48, Tryz.ntmps48
  go_wp2_with fail
  refine HC.out.mono ?_
  rintro e w1 ⟨rfl, hb1⟩
  have bx1 := bx.mono hb1
  clear c0 c2 cl
  have c0 := bx1.cell 0 rfl
  have c1 := bx1.cell 1 rfl
  have f0 := bx1.free 0
  have f1 := bx1.free 1
  have cl := bx1.lt
  go_wp2_with fail
  go_end0
  exact ⟨rfl, HFIN.out _ hb1⟩
theorem next_err {s : ByteArray} {rb I : Nat} {E : Int} (W : World) (hr : RdS s rb I E W) (hE : E ≠ 0) :
    Calls Tryz.prog 48 #[.pointer (some ⟨rb, 0, none⟩)] W fun e w' => e = .returned (.tuple #[]) ∧ W = w' := by
  have bx := hr.bx
  have c2 := bx.cell 2 rfl
  have cl := bx.lt
  have tE : (E != 0) = true := by simpa using hE
  clear hE
  go_enter Tryz.func48, Tryz.ntmps48
  go_wp2_with fail
  ((try simp only [Exit.inBlock, Exit.then]); refine bodyPost_ret (results_none rfl _ _ _) rfl ?_)
  exact ⟨rfl, rfl⟩
end Go.Proofs.YtlcdnkloijehjaaGreatDoor

namespace Go.Proofs.YtlcdnkloijehjaaGreatDoor
open Go.RowKit
set_option linter.unusedVariables false

def RetWd (l : List ByteArray) (W w' : World) (e : Ending) : Prop := ∃ g, e = .returned (.tuple #[.slice (some ⟨g, 0, none⟩) l.length l.length, .bool true]) ∧ Box w' g (l.map Value.string) 9 ∧ W.heap.size ≤ g
theorem lineW_pos (x : List UInt8) : 0 < (lineW x).length := by
  unfold lineW
  rw [List.length_map]
  exact List.length_pos_iff.2 (spl_ne _ _)
theorem lineW_size {x : List UInt8} {y : ByteArray} (h : y ∈ lineW x) : y.size ≤ x.length := by
  obtain ⟨l, hl, rfl⟩ := List.mem_map.1 h
  rw [bsOf_size]
  exact spl_piece hl
theorem lineW_len (x : List UInt8) : (lineW x).length ≤ x.length + 1 := by
  unfold lineW
  rw [List.length_map]
  exact spl_len _ _
theorem wordsP_ok {L : List (List ByteArray)} {I : Nat} {nm : List UInt8} {n : Nat} {l : List ByteArray} (h : wordsP L I nm n = (0, l)) : ∃ hI : I < L.length, L[I] = l ∧ l.length = n ∧ toL (l.headD nilB) = nm ∧ l.all wdB = true := by
  unfold wordsP at h
  split at h
  · simp at h
  · rename_i l' hl
    obtain ⟨hI, he⟩ := List.getElem?_eq_some_iff.1 hl
    split at h
    · rename_i hok
      injection h with _ h
      subst h
      unfold lineOk at hok
      simp only [Bool.and_eq_true, decide_eq_true_eq] at hok
      exact ⟨hI, he, hok.1.1, hok.1.2, hok.2⟩
    · injection h with h; omega
theorem wordsP_bad {L : List (List ByteArray)} {I : Nat} {nm : List UInt8} {n : Nat} (h : (wordsP L I nm n).1 ≠ 0) : ((wordsP L I nm n).1 = 21 ∧ L.length ≤ I) ∨ ((wordsP L I nm n).1 = 2 ∧ ∃ hI : I < L.length, lineOk nm n L[I] = false) := by
  unfold wordsP at h ⊢
  split at h
  · rename_i hl
    exact Or.inl ⟨rfl, List.getElem?_eq_none_iff.1 hl⟩
  · rename_i l hl
    obtain ⟨hI, he⟩ := List.getElem?_eq_some_iff.1 hl
    split at h
    · exact absurd rfl h
    · rename_i hok
      refine Or.inr ⟨?_, hI, by rw [he]; simpa using hok⟩
      rw [if_neg hok]
set_option maxHeartbeats 2000000 in
theorem words_yes {s : ByteArray} {rb I : Nat} (nm : ByteArray) (n : Nat) (l : List ByteArray) (W : World) (hg : Glp W) (hs : s.size ≤ 1500000) (hr : RdS s rb I 0 W) (hw : wordsP (linesW s) I (toL nm) n = (0, l)) :
    Calls Tryz.prog 46 #[.pointer (some ⟨rb, 0, none⟩), .string nm, .int .i64 n] W fun e w' => RetWd l W w' e ∧ Below W.heap.size W w' := by
  obtain ⟨hI, rfl, rfl, h3, h4⟩ := wordsP_ok hw
  obtain ⟨x, hx, hc, hxl⟩ := cut_due hI
  have hz := sfx_len s I
  have HC := Lib.hid (fun W' h => cutS 10 (bsOf (sfx s I)) W' (hg.mono h) (by rw [bsOf_size]; omega))
  simp only [toL_bsOf, hc] at HC
  have HSP := Lib.hid (fun W' h => splitS 32 (bsOf x) W' (hg.mono h) (by rw [bsOf_size]; omega))
  have e1 : (spl 32 (toL (bsOf x))).map bsOf = lineW x := rfl
  rw [e1, ← hx] at HSP
  have hl0 := lineW_pos x
  have hll := lineW_len x
  have HSZ : Hid (∀ y ∈ lineW x, y.size ≤ 9223372036854775807) := fun y hy => by have := lineW_size hy; omega
  rw [← hx] at hl0 hll HSZ
  have bx := hr.bx
  clear e1 hx hc hz hr hw
  generalize (linesW s)[I] = l at *
  cases l with
  | nil => simp at hl0
  | cons l0 r =>
  obtain rfl : l0 = nm := toL_inj h3
  have HA := Lib.hid h4
  clear h3 h4 hl0
  generalize bsOf (sfx s I) = T0 at *
  generalize bsOf (sfx s (I + 1)) = T1 at *
  generalize bsOf x = X at *
  have c0 := bx.cell 0 rfl
  have c2 := bx.cell 2 rfl
  have cl := bx.lt
  obtain ⟨n, hn⟩ : ∃ n, Hid (n = (l0 :: r).length) := ⟨_, Lib.hid rfl⟩
  have HCN := Lib.hid (fun (b : Nat) (W' : World) hs => containsNW (l0 :: r) b 0 (l0 :: r).length W' (by omega) HSZ hs)
  have HRW : Hid (∀ g w', Box w' g ((l0 :: r).map Value.string) 9 → W.heap.size ≤ g → RetWd (l0 :: r) W w' (.returned (.tuple #[.slice (some ⟨g, 0, none⟩) n n, .bool true]))) := fun g w' h1 h2 => ⟨g, by rw [hn.out], h1, h2⟩
  rw [HA.out] at HCN
  rw [← hn.out] at HSP HCN hll ⊢
  go_enter Tryz.func46, Tryz.ntmps46
  go_wp2_with fail
  refine (HC.out _ (Below.refl _ _)).mono ?_
  rintro e w1 ⟨rfl, hb1⟩
  go_wp2_with fail
  refine (HSP.out _ hb1).mono ?_
  rintro e w2 ⟨rfl, hbx, hb2⟩
  have d0 := hbx.cell 0 rfl
  have dl := hbx.lt
  have hn0 : 0 < n := by rw [hn.out]; simp
  have hn1 : (0 : Int) < (n : Int) := by omega
  go_wp2_with fail
  refine (HCN.out _ _ hbx.strs).mono ?_
  rintro e w3 ⟨rfl, rfl⟩
  have HF := Lib.hid (HRW.out _ _ hbx hb1.size)
  go_wp2_with fail
  go_ret2
  exact ⟨HF.out, below_step hb1 hb2⟩
def RetNo (e : Ending) : Prop := e = .returned (.tuple #[.slice none 0 0, .bool false])
set_option maxHeartbeats 4000000 in
theorem words_no {s : ByteArray} {rb I : Nat} (nm : ByteArray) (n : Nat) (W : World) (hg : Glp W) (hs : s.size ≤ 1500000) (hr : RdS s rb I 0 W) (hw : (wordsP (linesW s) I (toL nm) n).1 ≠ 0) :
    Calls Tryz.prog 46 #[.pointer (some ⟨rb, 0, none⟩), .string nm, .int .i64 n] W fun e w' => RetNo e ∧ RdS s rb I (wordsP (linesW s) I (toL nm) n).1 w' ∧ W.grownBy w' (some rb) := by
  have bx := hr.bx
  have hle := hr.le
  have HFIN : Hid (∀ c w1, Below W.heap.size W w1 → RdS s rb I c (w1.setCell ⟨rb, 2, none⟩ (.int .i64 c)) ∧ W.grownBy (w1.setCell ⟨rb, 2, none⟩ (.int .i64 c)) (some rb)) := fun c w1 h => ⟨⟨(bx.mono h).set 2 _, hle⟩, grown_trans (grown_below h _) (grown_set _ _ _ _)⟩
  have hz := sfx_len s I
  have HC := Lib.hid (fun W' h => cutS 10 (bsOf (sfx s I)) W' (hg.mono h) (by rw [bsOf_size]; omega))
  simp only [toL_bsOf] at HC
  rcases wordsP_bad hw with ⟨e, h2⟩ | ⟨e, hI, h2⟩
  · rw [e]
    obtain ⟨-, hc, -⟩ := cut_end (show I = (linesW s).length by omega)
    rw [hc] at HC
    generalize (Lib.cut (sfx s I) [10]).1 = z1 at *
    generalize (Lib.cut (sfx s I) [10]).2.1 = z2 at *
    clear hc e hw hr hz
    generalize bsOf (sfx s I) = T0 at *
    have c0 := bx.cell 0 rfl
    have c2 := bx.cell 2 rfl
    have cl := bx.lt
    go_enter Tryz.func46, Tryz.ntmps46
    go_wp2_with fail
    refine (HC.out _ (Below.refl _ _)).mono ?_
    rintro e w1 ⟨rfl, hb1⟩
    have bx1 := bx.mono hb1
    clear c0 c2 cl
    have c2 := bx1.cell 2 rfl
    have cf := bx1.free 2
    have cl := bx1.lt
    go_wp2_with fail
    go_ret2
    exact ⟨rfl, HFIN.out _ _ hb1⟩
  · rw [e]
    obtain ⟨x, hx, hc, hxl⟩ := cut_due hI
    rw [hc] at HC
    have HSP := Lib.hid (fun W' h => splitS 32 (bsOf x) W' (hg.mono h) (by rw [bsOf_size]; omega))
    have e1 : (spl 32 (toL (bsOf x))).map bsOf = lineW x := rfl
    rw [e1, ← hx] at HSP
    have hl0 := lineW_pos x
    have hll := lineW_len x
    have HSZ : Hid (∀ y ∈ lineW x, y.size ≤ 9223372036854775807) := fun y hy => by have := lineW_size hy; omega
    rw [← hx] at hl0 hll HSZ
    clear e1 hx hc hz hr hw e
    generalize (linesW s)[I] = l at *
    cases l with
    | nil => simp at hl0
    | cons l0 r =>
    generalize bsOf (sfx s I) = T0 at *
    generalize bsOf (sfx s (I + 1)) = T1 at *
    generalize bsOf x = X at *
    have c0 := bx.cell 0 rfl
    have c2 := bx.cell 2 rfl
    have cl := bx.lt
    obtain ⟨m, hm⟩ : ∃ n, Hid (n = (l0 :: r).length) := ⟨_, Lib.hid rfl⟩
    have HCN := Lib.hid (fun (b : Nat) (W' : World) hs => containsNW (l0 :: r) b 0 (l0 :: r).length W' (by omega) HSZ hs)
    rw [← hm.out] at HSP HCN hll
    have hm0 : 0 < m := by rw [hm.out]; simp
    have hm1 : (0 : Int) < (m : Int) := by omega
    go_enter Tryz.func46, Tryz.ntmps46
    go_wp2_with fail
    refine (HC.out _ (Below.refl _ _)).mono ?_
    rintro e w1 ⟨rfl, hb1⟩
    go_wp2_with fail
    refine (HSP.out _ hb1).mono ?_
    rintro e w2 ⟨rfl, hbx, hb2⟩
    have hb12 := below_step hb1 hb2
    have bx1 := bx.mono hb12
    clear c0 c2 cl
    have c2 := bx1.cell 2 rfl
    have cf := bx1.free 2
    have cl := bx1.lt
    have d0 := hbx.cell 0 rfl
    have dl := hbx.lt
    by_cases t1 : m = n
    case neg =>
      have t2 : ((m : Int) != (n : Int)) = true := by rw [bne_iff_ne]; omega
      clear t1
      go_wp2_with fail
      go_ret2
      exact ⟨rfl, HFIN.out _ _ hb12⟩
    have HM : Hid (m = n) := t1
    have t2 : ((m : Int) != (n : Int)) = false := by rw [bne_eq_false_iff_eq]; omega
    clear t1
    by_cases t3 : toL l0 = toL nm
    case neg =>
      have t4 : (l0.toList == nm.toList) = false := by rw [beq_eq_false_iff_ne]; exact fun h => t3 (by unfold toL; rw [ByteArray.toList_eq, ByteArray.toList_eq] at h; exact h)
      clear t3
      go_wp2_with fail
      go_ret2
      exact ⟨rfl, HFIN.out _ _ hb12⟩
    have t4 : (l0.toList == nm.toList) = true := by rw [toL_inj t3]; simp
    have HAL : Hid ((l0 :: r).all wdB = false) := by
      show _ = _
      unfold lineOk at h2
      rw [decide_eq_true (show (l0 :: r).length = n by rw [← hm.out]; exact HM.out), decide_eq_true (show toL ((l0 :: r).headD nilB) = toL nm from t3)] at h2
      simpa using h2
    rw [HAL.out] at HCN
    clear t3 h2
    go_wp2_with fail
    refine (HCN.out _ _ hbx.strs).mono ?_
    rintro e w3 ⟨rfl, rfl⟩
    go_wp2_with fail
    go_ret2
    exact ⟨rfl, HFIN.out _ _ hb12⟩
theorem words_err {s : ByteArray} {rb I : Nat} {E : Int} (nm : ByteArray) (n : Nat) (W : World) (hr : RdS s rb I E W) (hE : E ≠ 0) :
    Calls Tryz.prog 46 #[.pointer (some ⟨rb, 0, none⟩), .string nm, .int .i64 n] W fun e w' => RetNo e ∧ W = w' := by
  have bx := hr.bx
  have c2 := bx.cell 2 rfl
  have cl := bx.lt
  have tE : (E != 0) = true := by simpa using hE
  clear hE
  go_enter Tryz.func46, Tryz.ntmps46
  go_wp2_with fail
  go_ret2
  exact ⟨rfl, rfl⟩
end Go.Proofs.YtlcdnkloijehjaaGreatDoor

namespace Go.Proofs.YtlcdnkloijehjaaGreatDoor
open Go.RowKit
set_option linter.unusedVariables false

theorem below_grownB {w0 W W' : World} {rb : Nat} (h : Below w0.heap.size w0 W) (hg : W.grownBy W' (some rb)) (hlt : w0.heap.size ≤ rb) : Below w0.heap.size w0 W' :=
  h.trans ((Below.refl _ _).grown hg h.size (fun k hk => by injection hk with hk; omega))
/-- What number returns. -/
def NumR (s : ByteArray) (rb I : Nat) (E : Int) (x : ByteArray) (W w' : World) (e : Ending) : Prop :=
  ∃ k E', e = .returned (.int .i64 k) ∧ RdS s rb I E' w' ∧ W.grownBy w' (some rb) ∧ ((numP x = some k ∧ E' = E) ∨ (numP x = none ∧ k = 0 ∧ E' = 2))
theorem number_any {s : ByteArray} {rb I : Nat} {E : Int} (x : ByteArray) (W : World) (hg : Glp W) (hr : RdS s rb I E W) (hx : x.size ≤ 2000000) :
    Calls Tryz.prog 47 #[.pointer (some ⟨rb, 0, none⟩), .string x] W fun e w' => NumR s rb I E x W w' e := by
  cases h : numP x with
  | some n =>
    refine (number_yes (s := s) (I := I) (E := E) x n W hg hx h).mono ?_
    rintro e w' ⟨rfl, hb⟩
    exact ⟨n, E, rfl, hr.mono hb, grown_below hb _, Or.inl ⟨h, rfl⟩⟩
  | none =>
    refine (number_no x W hg hr hx h).mono ?_
    rintro e w' ⟨rfl, h1, h2⟩
    exact ⟨0, 2, rfl, h1, h2, Or.inr ⟨h, rfl, rfl⟩⟩
theorem kindN_cases (s : ByteArray) : (kindN s = 0 ∧ toL s ≠ kindW 1 ∧ toL s ≠ kindW 2 ∧ toL s ≠ kindW 3 ∧ toL s ≠ kindW 4) ∨ (kindN s = 1 ∧ toL s = kindW 1) ∨ (kindN s = 2 ∧ toL s = kindW 2) ∨ (kindN s = 3 ∧ toL s = kindW 3) ∨ (kindN s = 4 ∧ toL s = kindW 4) := by
  unfold kindN
  by_cases h1 : toL s = kindW 1
  · rw [if_pos h1]; exact Or.inr (Or.inl ⟨rfl, h1⟩)
  rw [if_neg h1]
  by_cases h2 : toL s = kindW 2
  · rw [if_pos h2]; exact Or.inr (Or.inr (Or.inl ⟨rfl, h2⟩))
  rw [if_neg h2]
  by_cases h3 : toL s = kindW 3
  · rw [if_pos h3]; exact Or.inr (Or.inr (Or.inr (Or.inl ⟨rfl, h3⟩)))
  rw [if_neg h3]
  by_cases h4 : toL s = kindW 4
  · rw [if_pos h4]; exact Or.inr (Or.inr (Or.inr (Or.inr ⟨rfl, h4⟩)))
  rw [if_neg h4]
  exact Or.inl ⟨rfl, h1, h2, h3, h4⟩
theorem idx_kinds {x : ByteArray} (h : 1 ≤ x.size) : Lib.idxOfS kindsL x = if kindN x = 0 then -1 else kindN x := by
  have h0 : ¬ (⟨#[]⟩ : ByteArray) = x := fun e => by rw [← e] at h; exact absurd h (by decide)
  unfold Lib.idxOfS kindsL
  simp only [Lib.idxFromS, if_neg h0]
  have e : ∀ l : List UInt8, ((⟨l.toArray⟩ : ByteArray) = x) ↔ toL x = l := fun l => ⟨fun h => by rw [← h]; rfl, fun h => toL_inj h.symm⟩
  have e1 : ((⟨#[117, 110, 115, 101, 116]⟩ : ByteArray) = x) ↔ toL x = kindW 1 := e _
  have e2 : ((⟨#[115, 116, 97, 116, 101]⟩ : ByteArray) = x) ↔ toL x = kindW 2 := e _
  have e3 : ((⟨#[116, 97, 105, 110, 116]⟩ : ByteArray) = x) ↔ toL x = kindW 3 := e _
  have e4 : ((⟨#[98, 114, 97, 110, 99, 104]⟩ : ByteArray) = x) ↔ toL x = kindW 4 := e _
  simp only [e1, e2, e3, e4]
  have d12 : kindW 1 ≠ kindW 2 := by decide
  have d13 : kindW 1 ≠ kindW 3 := by decide
  have d14 : kindW 1 ≠ kindW 4 := by decide
  have d23 : kindW 2 ≠ kindW 3 := by decide
  have d24 : kindW 2 ≠ kindW 4 := by decide
  have d34 : kindW 3 ≠ kindW 4 := by decide
  rcases kindN_cases x with ⟨h1, a, b, c, d⟩ | ⟨h1, a⟩ | ⟨h1, a⟩ | ⟨h1, a⟩ | ⟨h1, a⟩
  · rw [h1, if_neg a, if_neg b, if_neg c, if_neg d]; rfl
  · rw [h1, if_pos a]; rfl
  · rw [h1, a, if_neg (fun h => d12 h.symm), if_pos rfl]; rfl
  · rw [h1, a, if_neg (fun h => d13 h.symm), if_neg (fun h => d23 h.symm), if_pos rfl]; rfl
  · rw [h1, a, if_neg (fun h => d14 h.symm), if_neg (fun h => d24 h.symm), if_neg (fun h => d34 h.symm), if_pos rfl]; rfl
theorem plcsTy : ElemTy Tryz.prog 44 43 3 40 (.agg #[.string ByteArray.empty, .string ByteArray.empty, .int .i64 0]) := ⟨Tryz.underlying44, by kernel_rfl, rfl, by omega⟩
def zeroF : List Value := [.int .i64 0, .string ⟨#[]⟩, .string ⟨#[]⟩, .int .i64 0, .string ⟨#[]⟩, .slice none 0 0]
/-- A raw row holds a finding; its path is the call's own. -/
structure RowF (B : Nat) (w : World) (r : RFnd) (x : Fnd) : Prop where
  kind : r.kind = x.kind
  plc : r.plc = x.plc
  what : r.what = x.what
  path : Own cellsPlc 3 B 43 w (.slice r.A r.n r.c) x.path
theorem RowF.rep {B : Nat} {w : World} {r : RFnd} {x : Fnd} (h : RowF B w r x) : Lay.fnd.rep w x (cellsRFnd r) := by
  obtain ⟨h1, h2, h3, h4⟩ := h
  obtain ⟨A, c, e, hc, hs⟩ := h4.sl (L := Lay.plc) rfl (fun _ => rfl)
  injection e with e1 e2 e3
  refine ⟨A, c, cellsPlc x.plc, ?_, hc, hs, rfl⟩
  unfold cellsRFnd
  rw [h1, h2, h3, e1, e2, e3]
  rfl
/-- What finding returns. -/
def FndR (B : Nat) (T : Nat × Int × Fnd) (w' : World) (e : Ending) : Prop := ∃ r : RFnd, e = .returned (.agg #[.int .i64 r.kind, .string r.plc.cls, .string r.plc.mth, .int .i64 r.plc.ins, .string r.what, .slice r.A r.n r.c]) ∧ (T.2.1 = 0 → RowF B w' r T.2.2)
theorem Box.store6 {w : World} {b : Nat} {a0 a1 a2 a3 a4 a5 : Value} {t : TypeId} (h : Box w b [a0, a1, a2, a3, a4, a5] t) (v0 v1 v2 v3 v4 v5 : Value) :
    Box ((((((w.setCell ⟨b, 0, none⟩ v0).setCell ⟨b, 1, none⟩ v1).setCell ⟨b, 2, none⟩ v2).setCell ⟨b, 3, none⟩ v3).setCell ⟨b, 4, none⟩ v4).setCell ⟨b, 5, none⟩ v5) b [v0, v1, v2, v3, v4, v5] t ∧ w.grownBy ((((((w.setCell ⟨b, 0, none⟩ v0).setCell ⟨b, 1, none⟩ v1).setCell ⟨b, 2, none⟩ v2).setCell ⟨b, 3, none⟩ v3).setCell ⟨b, 4, none⟩ v4).setCell ⟨b, 5, none⟩ v5) (some b) :=
  ⟨(((((h.set 0 v0).set 1 v1).set 2 v2).set 3 v3).set 4 v4).set 5 v5, grown_trans (grown_trans (grown_set2 _ _ _ _ _ _) (grown_set2 _ _ _ _ _ _)) (grown_set2 _ _ _ _ _ _)⟩
theorem below_own {W w w' : World} {b : Nat} (h : Below W.heap.size W w) (hg : w.grownBy w' (some b)) (hb : W.heap.size ≤ b) : Below W.heap.size W w' :=
  h.trans ((Below.refl _ _).grown hg h.size (fun k hk => by injection hk with hk; omega))
set_option maxHeartbeats 2000000 in
theorem finding_err {s : ByteArray} {rb I : Nat} {E : Int} (W : World) (hr : RdS s rb I E W) (hE : E ≠ 0) :
    Calls Tryz.prog 44 #[.pointer (some ⟨rb, 0, none⟩)] W fun e w' => FndR W.heap.size (I, E, fnd0) w' e ∧ Below W.heap.size W w' := by
  generalize hW0 : (W.alloc (.cells #[.int .i64 0, .string ⟨#[]⟩, .string ⟨#[]⟩, .int .i64 0, .string ⟨#[]⟩, .slice none 0 0] 46)).alloc (.cells #[.int .i64 0, .string ⟨#[]⟩, .string ⟨#[]⟩, .int .i64 0, .string ⟨#[]⟩, .slice none 0 0] 46) = W1
  have bxf : Box W1 (W.heap.size + 1) zeroF 46 := by rw [← hW0]; exact Box.at (by simp)
  have bxr : Box W1 W.heap.size zeroF 46 := by rw [← hW0]; exact (Box.new _ _ _).alloc _
  have hb1 : Below W.heap.size W W1 := by rw [← hW0]; exact (by repeat (first | assumption | exact Below.refl _ _ | apply bw_alloc | apply bw_drew | apply bw_drewN | apply bw_later | apply bw_step))
  have hr1 := hr.mono hb1
  have HW := Lib.hid (words_err ⟨#[102, 105, 110, 100, 105, 110, 103]⟩ 7 _ hr1 hE)
  have HFR : Hid (∀ w', FndR W.heap.size (I, E, fnd0) w' (.returned (.agg #[.int .i64 0, .string ⟨#[]⟩, .string ⟨#[]⟩, .int .i64 0, .string ⟨#[]⟩, .slice none 0 0]))) := fun w' => ⟨⟨0, ⟨⟨#[]⟩, ⟨#[]⟩, 0⟩, ⟨#[]⟩, none, 0, 0⟩, rfl, fun h => absurd h hE⟩
  clear hE
  go_enter Tryz.func44, Tryz.ntmps44
  go_upto_region 2 with fail
  clear hW0
  go_wp2_with fail
  refine HW.out.mono ?_
  rintro e w2 ⟨he, rfl⟩
  unfold RetNo at he
  subst he
  have c0 := bxf.cell 0 rfl
  have c1 := bxf.cell 1 rfl
  have c2 := bxf.cell 2 rfl
  have c3 := bxf.cell 3 rfl
  have c4 := bxf.cell 4 rfl
  have c5 := bxf.cell 5 rfl
  have cl := bxf.lt
  have d0 := bxr.cell 0 rfl
  have d1 := bxr.cell 1 rfl
  have d2 := bxr.cell 2 rfl
  have d3 := bxr.cell 3 rfl
  have d4 := bxr.cell 4 rfl
  have d5 := bxr.cell 5 rfl
  have df := fun i => bxr.free i
  go_wp2_with fail
  obtain ⟨bxF, hgF⟩ := Box.store6 bxr (.int .i64 0) (.string ⟨#[]⟩) (.string ⟨#[]⟩) (.int .i64 0) (.string ⟨#[]⟩) (.slice none 0 0)
  generalize World.setCell _ _ _ = W3 at *
  have z0 := bxF.cell 0 rfl
  have z1 := bxF.cell 1 rfl
  have z2 := bxF.cell 2 rfl
  have z3 := bxF.cell 3 rfl
  have z4 := bxF.cell 4 rfl
  have z5 := bxF.cell 5 rfl
  refine bodyPost_ret (v := .agg #[.int .i64 0, .string ⟨#[]⟩, .string ⟨#[]⟩, .int .i64 0, .string ⟨#[]⟩, .slice none 0 0]) (by simp [results, Tryz.results44, go_sem, z0, z1, z2, z3, z4, z5]) rfl ⟨HFR.out _, below_own hb1 hgF (Nat.le_refl _)⟩
end Go.Proofs.YtlcdnkloijehjaaGreatDoor

namespace Go.Proofs.YtlcdnkloijehjaaGreatDoor
open Go.RowKit
set_option linter.unusedVariables false

theorem grown_new {W w w' : World} {row : Option Nat} {b : Nat} (h : W.grownBy w row) (hg : w.grownBy w' (some b)) (hb : W.heap.size ≤ b) : W.grownBy w' row :=
  ⟨hg.os.trans h.os, hg.tape.trans h.tape, hg.output.trans h.output, Nat.le_trans h.size hg.size, fun k hk hne => (hg.block k (Nat.lt_of_lt_of_le hk h.size) (fun e => by injection e with e; omega)).trans (h.block k hk hne)⟩
theorem grown_own {W w w' : World} {row : Option Nat} {v : Value} (h : W.grownBy w row) (hg : w.grownBy w' v.ownBlock) (hb : ∀ k, v.ownBlock = some k → W.heap.size ≤ k) : W.grownBy w' row :=
  ⟨hg.os.trans h.os, hg.tape.trans h.tape, hg.output.trans h.output, Nat.le_trans h.size hg.size, fun k hk hne => (hg.block k (Nat.lt_of_lt_of_le hk h.size) (fun e => by have := hb k e.symm; omega)).trans (h.block k hk hne)⟩
theorem grown_later {W w w' : World} {row : Option Nat} (h : W.grownBy w row) (hb : Below w.heap.size w w') : W.grownBy w' row :=
  ⟨hb.os.trans h.os, hb.tape.trans h.tape, hb.output.trans h.output, Nat.le_trans h.size hb.size, fun k hk hne => (hb.block k (Nat.lt_of_lt_of_le hk h.size)).trans (h.block k hk hne)⟩
/-- The walk's state: the reader, the words' block, the result, the finding. -/
structure FW (W : World) (s : ByteArray) (rb I : Nat) (E : Int) (g : Nat) (ws : List ByteArray) (b2 b3 : Nat) (fc : List Value) (w : World) : Prop where
  rd : RdS s rb I E w
  bg : Box w g (ws.map Value.string) 9
  x2 : Box w b2 zeroF 46
  x3 : Box w b3 fc 46
  gr : W.grownBy w (some rb)
  l1 : rb < W.heap.size
  l2 : W.heap.size ≤ b2
  l3 : b2 < b3
  l4 : b3 < g
section
variable {W : World} {s : ByteArray} {rb I : Nat} {E : Int} {g : Nat} {ws : List ByteArray} {b2 b3 : Nat} {fc : List Value} {w w' : World}
theorem FW.mono (h : FW W s rb I E g ws b2 b3 fc w) (hb : Below w.heap.size w w') : FW W s rb I E g ws b2 b3 fc w' :=
  ⟨h.rd.mono hb, h.bg.mono hb, h.x2.mono hb, h.x3.mono hb, grown_later h.gr hb, h.l1, h.l2, h.l3, h.l4⟩
theorem FW.turn {J : Nat} {E' : Int} (h : FW W s rb I E g ws b2 b3 fc w) (hr : RdS s rb J E' w') (hg : w.grownBy w' (some rb)) : FW W s rb J E' g ws b2 b3 fc w' := by
  have h1 := h.l1; have h2 := h.l2; have h3 := h.l3; have h4 := h.l4
  refine ⟨hr, h.bg.grown hg (fun e => ?_), h.x2.grown hg (fun e => ?_), h.x3.grown hg (fun e => ?_), grown_trans h.gr hg, h1, h2, h3, h4⟩
  all_goals (injection e with e; omega)
theorem FW.set (h : FW W s rb I E g ws b2 b3 fc w) (i : Nat) (v : Value) : FW W s rb I E g ws b2 b3 (fc.set i v) (w.setCell ⟨b3, i, none⟩ v) := by
  have h1 := h.l1; have h2 := h.l2; have h3 := h.l3; have h4 := h.l4
  exact ⟨⟨h.rd.bx.setOther (by show b3 ≠ rb; omega) v, h.rd.le⟩, h.bg.setOther (by show b3 ≠ g; omega) v, h.x2.setOther (by show b3 ≠ b2; omega) v, h.x3.set i v, grown_new h.gr (grown_set _ _ _ _) (by omega), h1, h2, h3, h4⟩
theorem FW.words {g' : Nat} {ws' : List ByteArray} (h : FW W s rb I E g ws b2 b3 fc w) (hb : Below w.heap.size w w') (hx : Box w' g' (ws'.map Value.string) 9) (hl : b3 < g') : FW W s rb I E g' ws' b2 b3 fc w' :=
  ⟨h.rd.mono hb, hx, h.x2.mono hb, h.x3.mono hb, grown_later h.gr hb, h.l1, h.l2, h.l3, hl⟩
theorem FW.row {v : Value} {α : Type} {cs : α → List Value} {base size : Nat} {e : TypeId} {l : List α} (h : FW W s rb I E g ws b2 b3 fc w) (ho : Own cs size base e w v l) (hbase : W.heap.size ≤ base) (e1 : e ≠ 9) (e2 : e ≠ 46) (e3 : e ≠ 76) (hg : w.grownBy w' v.ownBlock) : FW W s rb I E g ws b2 b3 fc w' :=
  ⟨⟨h.rd.bx.grown hg (ho.ne_box h.rd.bx e3), h.rd.le⟩, h.bg.grown hg (ho.ne_box h.bg e1), h.x2.grown hg (ho.ne_box h.x2 e2), h.x3.grown hg (ho.ne_box h.x3 e2), grown_own h.gr hg (fun k hk => Nat.le_trans hbase (World.ownsRow.lt ho k hk).1), h.l1, h.l2, h.l3, h.l4⟩
end
theorem list7 {α : Type} {l : List α} (h : l.length = 7) : ∃ a b c d e f g, l = [a, b, c, d, e, f, g] := by
  match l, h with
  | [a, b, c, d, e, f, g], _ => exact ⟨a, b, c, d, e, f, g, rfl⟩
theorem list4 {α : Type} {l : List α} (h : l.length = 4) : ∃ a b c d, l = [a, b, c, d] := by
  match l, h with
  | [a, b, c, d], _ => exact ⟨a, b, c, d, rfl⟩
theorem list2 {α : Type} {l : List α} (h : l.length = 2) : ∃ a b, l = [a, b] := by
  match l, h with
  | [a, b], _ => exact ⟨a, b, rfl⟩
theorem kinds_cells {W : World} {b : Nat} (hb : Box W b (kindsL.map Value.string) 9) : ∀ j, j < kindsL.length → W.cell? ⟨b, 0 + j, none⟩ = some (.string (kindsL.getD j ByteArray.empty)) := fun j hj => by
  rw [Nat.zero_add]
  have h5 : j < 5 := hj
  rcases (show j = 0 ∨ j = 1 ∨ j = 2 ∨ j = 3 ∨ j = 4 by omega) with rfl | rfl | rfl | rfl | rfl
  · exact hb.cell 0 rfl
  · exact hb.cell 1 rfl
  · exact hb.cell 2 rfl
  · exact hb.cell 3 rfl
  · exact hb.cell 4 rfl
theorem words_sizes {s : ByteArray} {I : Nat} {nm : List UInt8} {n : Nat} {l : List ByteArray} (h : wordsP (linesW s) I nm n = (0, l)) : I < (linesW s).length ∧ l.length = n ∧ (∀ x ∈ l, x.size ≤ s.size) ∧ (∀ x ∈ l, 1 ≤ x.size) := by
  obtain ⟨hI, rfl, h2, h3, h4⟩ := wordsP_ok h
  obtain ⟨x, hx, _, hxl⟩ := cut_due hI
  refine ⟨hI, h2, fun y hy => ?_, fun y hy => ?_⟩
  · rw [hx] at hy
    exact Nat.le_trans (lineW_size hy) hxl
  · have := List.all_eq_true.1 h4 y hy
    unfold wdB at this
    simp only [Bool.and_eq_true, decide_eq_true_eq] at this
    exact this.2
/-- The last steps: the finding is copied into the result. -/
theorem copy_out {W : World} {s : ByteArray} {rb I : Nat} {E : Int} {g : Nat} {ws : List ByteArray} {b2 b3 : Nat} {r : RFnd} {w : World} (h : FW W s rb I E g ws b2 b3 (cellsRFnd r) w) :
    Box ((((((w.setCell ⟨b2, 0, none⟩ (.int .i64 r.kind)).setCell ⟨b2, 1, none⟩ (.string r.plc.cls)).setCell ⟨b2, 2, none⟩ (.string r.plc.mth)).setCell ⟨b2, 3, none⟩ (.int .i64 r.plc.ins)).setCell ⟨b2, 4, none⟩ (.string r.what)).setCell ⟨b2, 5, none⟩ (.slice r.A r.n r.c)) b2 (cellsRFnd r) 46 ∧
    RdS s rb I E ((((((w.setCell ⟨b2, 0, none⟩ (.int .i64 r.kind)).setCell ⟨b2, 1, none⟩ (.string r.plc.cls)).setCell ⟨b2, 2, none⟩ (.string r.plc.mth)).setCell ⟨b2, 3, none⟩ (.int .i64 r.plc.ins)).setCell ⟨b2, 4, none⟩ (.string r.what)).setCell ⟨b2, 5, none⟩ (.slice r.A r.n r.c)) ∧
    W.grownBy ((((((w.setCell ⟨b2, 0, none⟩ (.int .i64 r.kind)).setCell ⟨b2, 1, none⟩ (.string r.plc.cls)).setCell ⟨b2, 2, none⟩ (.string r.plc.mth)).setCell ⟨b2, 3, none⟩ (.int .i64 r.plc.ins)).setCell ⟨b2, 4, none⟩ (.string r.what)).setCell ⟨b2, 5, none⟩ (.slice r.A r.n r.c)) (some rb) ∧
    w.grownBy ((((((w.setCell ⟨b2, 0, none⟩ (.int .i64 r.kind)).setCell ⟨b2, 1, none⟩ (.string r.plc.cls)).setCell ⟨b2, 2, none⟩ (.string r.plc.mth)).setCell ⟨b2, 3, none⟩ (.int .i64 r.plc.ins)).setCell ⟨b2, 4, none⟩ (.string r.what)).setCell ⟨b2, 5, none⟩ (.slice r.A r.n r.c)) (some b2) := by
  obtain ⟨h1, h2⟩ := Box.store6 h.x2 (.int .i64 r.kind) (.string r.plc.cls) (.string r.plc.mth) (.int .i64 r.plc.ins) (.string r.what) (.slice r.A r.n r.c)
  have l1 := h.l1; have l2 := h.l2
  exact ⟨h1, ⟨h.rd.bx.grown h2 (fun e => by injection e with e; omega), h.rd.le⟩, grown_new h.gr h2 l2, h2⟩
end Go.Proofs.YtlcdnkloijehjaaGreatDoor
