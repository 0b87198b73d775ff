/-
  Chapter 39: the reference's check of moves.
-/
import Derived.Test.YthabojhnliomnaaGreatDoorPolK
namespace Go.Proofs.YthabojhnliomnaaGreatDoor
open Go.RowKit
set_option linter.unusedVariables false

def OkMovs (l : List Mov) : Prop := ∀ m ∈ l, m.mth.size ≤ 9223372036854775807
set_option maxRecDepth 100000 in
set_option maxHeartbeats 4000000 in
theorem refMoves_any (cl : ByteArray) (A1 A4 : Option Addr) (n1 c1 c4 : Nat) (st er : Int) (l : List Mov) (w : World) (hn : n1 ≤ 16) (hl : l.length ≤ 256) (hok : Hid (OkMovs l)) (hs : Sl Lay.mov w A4 l) :
    Calls Tryz.prog 80 #[.agg #[.string cl, .slice A1 n1 c1, .int .i64 st, .int .i64 er, .slice A4 l.length c4]] w fun e w' => e = .returned (.int .i64 (firstE (mvF n1 er l) l.length)) ∧ Below w.heap.size w w' := by
  obtain ⟨r, HR⟩ : ∃ r, Hid (r = firstE (mvF n1 er l) l.length) := ⟨_, Lib.hid rfl⟩
  rw [← HR.out]
  have bx0 := Box.new w [.string cl, .slice A1 n1 c1, .int .i64 st, .int .i64 er, .slice A4 l.length c4] 63
  have hb0 : Below w.heap.size w (w.alloc (.cells #[.string cl, .slice A1 n1 c1, .int .i64 st, .int .i64 er, .slice A4 l.length c4] 63)) := (by repeat (first | assumption | exact Below.refl _ _ | apply bw_alloc | apply bw_drew | apply bw_drewN | apply bw_later | apply bw_step))
  go_enter Tryz.func80, Tryz.ntmps80
  go_wp2_with fail
  go_loopw [3] (fun i wr => ∃ k : Nat, k ≤ l.length ∧ i = .int .i64 k ∧ Hid (firstE (mvF n1 er l) k = 0) ∧ Box wr w.heap.size [.string cl, .slice A1 n1 c1, .int .i64 st, .int .i64 er, .slice A4 l.length c4] 63 ∧ Below w.heap.size w wr) (fun i _ => l.length - (intOf i).toNat)
  case atStart => exact ⟨0, Nat.zero_le _, rfl, Lib.hid rfl, bx0, hb0⟩
  case round =>
    obtain ⟨k, hk, rfl, HN, hbx, hbw⟩ := hrel
    have p1 := hbx.cell 1 rfl
    have p3 := hbx.cell 3 rfl
    have p4 := hbx.cell 4 rfl
    have pl := hbx.lt
    by_cases hlt : k < l.length
    · have HF := Lib.hid (mvF_at (n := n1) (er := er) hlt)
      obtain ⟨b, o, rfl, hb, d0, d1, d2⟩ := (hs.mono hbw).mov_at hlt
      have hsz := hok.out _ (List.getElem_mem hlt)
      by_cases h1 : inSt n1 l[k].src ∧ inSt n1 l[k].dst
      case neg =>
        have HB : Hid (r = 4) := by
          have e : mvF n1 er l k = 4 := by rw [HF.out, if_pos h1]
          show _ = _
          rw [HR.out, firstE_hit HN.out (by rw [e]; omega) hlt, e]
        unfold inSt at h1
        go_wp2_with fail
        all_goals (go_ret; exact ⟨by rw [HB.out]; rfl, bw_alloc hbw⟩)
      obtain ⟨⟨a0, a1⟩, ⟨a2, a3⟩⟩ := h1
      have HF2 : Hid (mvF n1 er l k = if identB l[k].mth = false then 5 else if l[k].src = er then 22 else if 0 < k ∧ 0 ≤ cmpM (l[k - 1]'(by omega)) l[k] then 13 else 0) := by show _ = _; rw [HF.out, if_neg (fun h => h ⟨⟨a0, a1⟩, ⟨a2, a3⟩⟩)]
      clear HF
      have bm := Box.new wr [.int .i64 l[k].src, .string l[k].mth, .int .i64 l[k].dst] 103
      go_wp2_with fail
      refine (refIdent_any _ _ hsz).mono ?_
      rintro e w2 ⟨rfl, hb2⟩
      have hbw2 := below_step (bw_alloc hbw) hb2
      have bm2 := bm.mono hb2
      have hbx2 := (hbx.alloc _).mono hb2
      have m0 := bm2.cell 0 rfl
      have m1 := bm2.cell 1 rfl
      have ml := bm2.lt
      have r3 := hbx2.cell 3 rfl
      have r4 := hbx2.cell 4 rfl
      have rl := hbx2.lt
      clear bm d0 d1 d2
      cases hid : identB l[k].mth with
      | false =>
        have HB : Hid (r = 5) := by
          have e : mvF n1 er l k = 5 := by rw [HF2.out, if_pos hid]
          show _ = _
          rw [HR.out, firstE_hit HN.out (by rw [e]; omega) hlt, e]
        go_wp2_with fail
        go_ret
        exact ⟨by rw [HB.out]; rfl, hbw2⟩
      | true =>
        by_cases her : l[k].src = er
        · have HB : Hid (r = 22) := by
            have e : mvF n1 er l k = 22 := by rw [HF2.out, if_neg (by rw [hid]; simp), if_pos her]
            show _ = _
            rw [HR.out, firstE_hit HN.out (by rw [e]; omega) hlt, e]
          have te : (l[k].src == er) = true := by simpa using her
          clear her
          go_wp2_with fail
          go_ret
          exact ⟨by rw [HB.out]; rfl, hbw2⟩
        · have HF3 : Hid (mvF n1 er l k = if 0 < k ∧ 0 ≤ cmpM (l[k - 1]'(by omega)) l[k] then 13 else 0) := by show _ = _; rw [HF2.out, if_neg (by rw [hid]; simp), if_neg her]
          have te : (l[k].src == er) = false := by simpa using her
          clear her HF2
          by_cases hk0 : k = 0
          · subst hk0
            have HP : Hid (firstE (mvF n1 er l) (0 + 1) = 0) := firstE_pass HN.out (by rw [HF3.out, if_neg (by omega)])
            go_wp2_with fail
            go_roundw
            case rel => exact ⟨1, by omega, by go_num, HP, hbx2, hbw2⟩
            case measure => simp [intOf]; omega
          · obtain ⟨m, rfl⟩ : ∃ m, k = m + 1 := ⟨k - 1, by omega⟩
            obtain ⟨b', o', eA, hb', e0, e1, e2⟩ := (hs.mono hbw2).mov_at (i := m) (by omega)
            injection eA with eA
            injection eA with q1 q2
            subst q1 q2
            have HG := Lib.hid (cmpM_ge l[m] l[m + 1])
            have HF4 : Hid (mvF n1 er l (m + 1) = if 0 ≤ cmpM l[m] l[m + 1] then 13 else 0) := by
              show _ = _
              rw [HF3.out]
              by_cases h : 0 ≤ cmpM l[m] l[m + 1]
              · rw [if_pos h, if_pos ⟨by omega, h⟩]
              · rw [if_neg h, if_neg (fun h2 => h h2.2)]
            have HBY : Hid (0 ≤ cmpM l[m] l[m + 1] → r = 13) := fun h => by
              have e : mvF n1 er l (m + 1) = 13 := by rw [HF4.out, if_pos h]
              rw [HR.out, firstE_hit HN.out (by rw [e]; omega) hlt, e]
            have HBN : Hid (¬ 0 ≤ cmpM l[m] l[m + 1] → firstE (mvF n1 er l) (m + 1 + 1) = 0) := fun h => firstE_pass HN.out (by rw [HF4.out, if_neg h])
            have t3 : (((m + 1 : Nat) : Int) - 1) = (m : Int) := by omega
            clear HF3 HF4 hk0
            rcases Int.lt_trichotomy l[m].src l[m + 1].src with c | c | c
            · have HP := Lib.hid (HBN.out (fun h => by rcases HG.out.1 h with h | h <;> omega))
              have t4 : ¬ l[m + 1].src < l[m].src := by omega
              have t5 : (l[m].src == l[m + 1].src) = false := by simp; omega
              clear c
              go_wp2_with fail
              go_roundw
              case rel => exact ⟨m + 1 + 1, by omega, by go_num, HP, hbx2.alloc _, bw_alloc hbw2⟩
              case measure => simp [intOf]; omega
            · have t4 : ¬ l[m + 1].src < l[m].src := by omega
              have t5 : (l[m].src == l[m + 1].src) = true := by simpa using c
              by_cases c2 : toL l[m].mth < toL l[m + 1].mth
              · have HP := Lib.hid (HBN.out (fun h => (HG.out.1 h).elim (fun h => by omega) (fun h => h.2 c2)))
                have t6 : Op.bytesLess l[m].mth.toList l[m + 1].mth.toList = true := by rw [bytesLess_eq]; exact decide_eq_true (ltS_lt.1 c2)
                clear c c2
                go_wp2_with fail
                go_roundw
                case rel => exact ⟨m + 1 + 1, by omega, by go_num, HP, hbx2.alloc _, bw_alloc hbw2⟩
                case measure => simp [intOf]; omega
              · have HB := Lib.hid (HBY.out (HG.out.2 (Or.inr ⟨c, c2⟩)))
                have t6 : Op.bytesLess l[m].mth.toList l[m + 1].mth.toList = false := by rw [bytesLess_eq]; exact decide_eq_false (fun h => c2 (ltS_lt.2 h))
                clear c c2
                go_wp2_with fail
                go_ret
                exact ⟨by rw [HB.out]; rfl, bw_alloc hbw2⟩
            · have HB := Lib.hid (HBY.out (HG.out.2 (Or.inl c)))
              go_wp2_with fail
              go_ret
              exact ⟨by rw [HB.out]; rfl, bw_alloc hbw2⟩
    · obtain rfl : k = l.length := by omega
      have HB : Hid (r = 0) := by show _ = _; rw [HR.out]; exact HN.out
      go_wp2_with fail
      go_ret
      exact ⟨by rw [HB.out]; rfl, hbw⟩
end Go.Proofs.YthabojhnliomnaaGreatDoor
