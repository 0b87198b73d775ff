/-
  Chapter 14: the reference's closed.
-/
import Derived.Test.YthlpndgfphjlkaaCfgB
namespace Go.Proofs.Ythlpndgfphjlkaa
open Go.RowKit
set_option linter.unusedVariables false

set_option maxRecDepth 100000 in
theorem refClosed_long (c0 n0 : ByteArray) (s0 : Bool) (p0 : Int) (AV : Option Addr) (nV cV : Nat) (r0 : ByteArray) (AC : Option Addr) (cC : Nat) (code : List Ins) (w : World) (hm : code.length ≤ maxLen) (hl : 1024 < code.length) :
    Calls Try.prog 19 #[.agg #[.string c0, .string n0, .bool s0, .int .i64 p0, .slice AV nV cV, .string r0, .slice AC code.length cC]] w fun e w' => e = .returned (.int .i64 3) ∧ Below w.heap.size w w' := by
  have n1 : (1024 : Int) < (code.length : Int) := by omega
  go_enter Try.func19, Try.ntmps19
  go_wp2_with fail
  go_ret
  exact ⟨rfl, (by repeat (first | assumption | exact Below.refl _ _ | apply bw_alloc | apply bw_drew | apply bw_drewN | apply bw_later | apply bw_step))⟩
set_option maxRecDepth 100000 in
set_option maxHeartbeats 2000000 in
theorem refClosed_any (c0 n0 : ByteArray) (s0 : Bool) (p0 : Int) (AV : Option Addr) (nV cV : Nat) (r0 : ByteArray) (AC : Option Addr) (cC : Nat) (code : List Ins) (w : World) (hl : code.length ≤ 1024) (hs : Sl Lay.ins w AC code) :
    Calls Try.prog 19 #[.agg #[.string c0, .string n0, .bool s0, .int .i64 p0, .slice AV nV cV, .string r0, .slice AC code.length cC]] w fun e w' => e = .returned (.int .i64 (if Closed code then 0 else 4)) ∧ Below w.heap.size w w' := by
  have hb0 : Below w.heap.size w (w.alloc (.cells #[.string c0, .string n0, .bool s0, .int .i64 p0, .slice AV nV cV, .string r0, .slice AC code.length cC] 25)) := (by repeat (first | assumption | exact Below.refl _ _ | apply bw_alloc | apply bw_drew | apply bw_drewN | apply bw_later | apply bw_step))
  have bx0 := Box.new w [.string c0, .string n0, .bool s0, .int .i64 p0, .slice AV nV cV, .string r0, .slice AC code.length cC] 25
  have n1 : ¬ (1024 : Int) < (code.length : Int) := by omega
  obtain ⟨res, HRES⟩ : ∃ res : Int, Hid (res = if Closed code then 0 else 4) := ⟨_, Lib.hid rfl⟩
  rw [← HRES.out]
  go_enter Try.func19, Try.ntmps19
  go_wp2_with fail
  go_loopw [4] (fun i wr => ∃ k : Nat, k ≤ code.length ∧ i = .int .i64 k ∧ Hid ((∀ i (h : i < code.length), i < k → ¬ badI code.length code[i]) ∧ (k = code.length → ∀ h : 0 < code.length, endI (code[code.length - 1]'(by omega)))) ∧ Box wr w.heap.size [.string c0, .string n0, .bool s0, .int .i64 p0, .slice AV nV cV, .string r0, .slice AC code.length cC] 25 ∧ Below w.heap.size w wr) (fun i _ => code.length - (intOf i).toNat)
  case atStart => exact ⟨0, Nat.zero_le _, rfl, ⟨fun i h hi => by omega, fun h1 h2 => by omega⟩, bx0, hb0⟩
  case round =>
    obtain ⟨k, hk, rfl, HN, bx, hbw⟩ := hrel
    have bl := bx.lt
    have x6 := bx.cell 6 rfl
    by_cases hlt : k < code.length
    case neg =>
      have HR : Hid (res = 0) := by
        show _ = _
        rw [HRES.out, if_pos]
        exact ⟨fun i h => HN.out.1 i h (by omega), HN.out.2 (by omega)⟩
      go_wp2_with fail
      go_ret
      exact ⟨by rw [HR.out]; rfl, hbw⟩
    obtain ⟨b, o, A7, c7, eA, hb, d0, d1, d2, d3, d4, d5, d6, d7, d8, d9, hc7, hs7⟩ := (hs.mono hbw).ins_at hlt
    subst eA
    by_cases hbad : badI code.length code[k]
    · have HR : Hid (res = 4) := by
        show _ = _
        rw [HRES.out, if_neg fun h => h.1 k hlt hbad]
      by_cases p1 : (code[k].op = 11 ∨ code[k].op = 12) ∧ (code[k].jmp < 0 ∨ (code.length : Int) ≤ code[k].jmp)
      · obtain ⟨p1 | p1, p2 | p2⟩ := p1
        all_goals (clear hbad; go_wp2_with fail; all_goals (go_ret; exact ⟨by rw [HR.out]; rfl, (by repeat (first | assumption | exact Below.refl _ _ | apply bw_alloc | apply bw_drew | apply bw_drewN | apply bw_later | apply bw_step))⟩))
      · have p3 : code[k].hnd < -1 ∨ (code.length : Int) ≤ code[k].hnd := hbad.resolve_left p1
        clear hbad p1
        rcases p3 with p3 | p3
        all_goals (go_wp2_with fail; all_goals (go_ret; exact ⟨by rw [HR.out]; rfl, (by repeat (first | assumption | exact Below.refl _ _ | apply bw_alloc | apply bw_drew | apply bw_drewN | apply bw_later | apply bw_step))⟩))
    · have HE : Hid (∀ i (h : i < code.length), i < k + 1 → ¬ badI code.length code[i]) := fun i h hi => by
        by_cases e : i = k
        · subst e; exact hbad
        · exact HN.out.1 i h (by omega)
      have q1 : ¬ code[k].hnd < -1 := fun h => hbad (Or.inr (Or.inl h))
      have q2 : code[k].hnd < (code.length : Int) := Int.not_le.1 fun h => hbad (Or.inr (Or.inr h))
      have q3 : (code[k].op = 11 ∨ code[k].op = 12) → 0 ≤ code[k].jmp ∧ code[k].jmp < (code.length : Int) := fun h => ⟨Int.not_lt.1 fun h2 => hbad (Or.inl ⟨h, Or.inl h2⟩), Int.not_le.1 fun h2 => hbad (Or.inl ⟨h, Or.inr h2⟩)⟩
      clear hbad
      go_upto_region 8 with fail
      generalize hW : World.alloc _ _ = W1
      have hb1 : Below wr.heap.size wr W1 := by rw [← hW]; exact (by repeat (first | assumption | exact Below.refl _ _ | apply bw_alloc | apply bw_drew | apply bw_drewN | apply bw_later | apply bw_step))
      have by1 : Box W1 wr.heap.size [.int .i64 code[k].op, .int .i64 code[k].dst, .int .i64 code[k].a, .int .i64 code[k].b, .int .i64 code[k].n, .string code[k].cls, .string code[k].name, .slice A7 code[k].args.length c7, .int .i64 code[k].jmp, .int .i64 code[k].hnd] 52 := by rw [← hW]; exact Box.new _ _ _
      clear hW
      have bx1 := bx.mono hb1
      have hbw1 := below_step hbw hb1
      have l1 := bx1.lt
      have l2 := by1.lt
      have y0 := by1.cell 0 rfl
      have y8 := by1.cell 8 rfl
      have y9 := by1.cell 9 rfl
      clear d0 d1 d2 d3 d4 d5 d6 d7 d8 d9 hb bl x6
      go_cut [50] (fun v wx => v = .bool false ∧ W1 = wx)
      case first =>
        by_cases o1 : code[k].op = 11
        · obtain ⟨j1, j2⟩ := q3 (Or.inl o1)
          clear q3
          go_wp2_with fail
          go_meet
          exact ⟨by first | rfl | (simp; omega), rfl⟩
        by_cases o2 : code[k].op = 12
        · obtain ⟨j1, j2⟩ := q3 (Or.inr o2)
          clear q3
          go_wp2_with fail
          go_meet
          exact ⟨by first | rfl | (simp; omega), rfl⟩
        · clear q3
          have e1 : (code[k].op == 11) = false := by simpa using o1
          have e2 : (code[k].op == 12) = false := by simpa using o2
          go_wp2_with fail
          go_meet
          exact ⟨by first | rfl | (simp; omega), rfl⟩
      case rest =>
        obtain ⟨rfl, rfl⟩ := hcut
        clear q1 q2 q3
        have hpos1 : code.length - 1 < code.length := by omega
        by_cases hlast : (k : Int) = (code.length : Int) - 1
        · have HL : Hid (∀ P : Int → Prop, P (code[k].op) → P ((code[code.length - 1]'hpos1).op)) := fun P h => by
            have : code.length - 1 = k := by omega
            simp only [this]
            exact h
          have HL2 : Hid (∀ P : Int → Prop, P ((code[code.length - 1]'hpos1).op) → P (code[k].op)) := fun P h => by
            have : code.length - 1 = k := by omega
            simp only [this] at h
            exact h
          have hl1 : ((k : Int) == (code.length : Int) - 1) = true := by simpa using hlast
          clear hlast
          by_cases he : code[k].op = 12 ∨ code[k].op = 13 ∨ code[k].op = 14
          · have HF : Hid ((∀ i (h : i < code.length), i < k + 1 → ¬ badI code.length code[i]) ∧ (k + 1 = code.length → ∀ h : 0 < code.length, endI (code[code.length - 1]'(by omega)))) := ⟨HE.out, fun _ _ => HL.out (fun z => z = 12 ∨ z = 13 ∨ z = 14) he⟩
            obtain h | h | h := he
            all_goals (rw [h] at y0; clear h; go_wp2_with fail; go_roundw; (case rel => exact ⟨k + 1, by omega, by go_num, HF, bx1, hbw1⟩); (case measure => simp [intOf]; omega))
          · have HR : Hid (res = 4) := by
              show _ = _
              rw [HRES.out, if_neg fun h => he (HL2.out (fun z => z = 12 ∨ z = 13 ∨ z = 14) (h.2 (by omega)))]
            have e1 : (code[k].op != 12) = true := by simpa using fun h => he (Or.inl h)
            have e2 : (code[k].op != 13) = true := by simpa using fun h => he (Or.inr (Or.inl h))
            have e3 : (code[k].op != 14) = true := by simpa using fun h => he (Or.inr (Or.inr h))
            clear he
            go_wp2_with fail
            go_ret
            exact ⟨by rw [HR.out]; rfl, hbw1⟩
        · have hl1 : ((k : Int) == (code.length : Int) - 1) = false := by simpa using hlast
          have HF : Hid ((∀ i (h : i < code.length), i < k + 1 → ¬ badI code.length code[i]) ∧ (k + 1 = code.length → ∀ h : 0 < code.length, endI (code[code.length - 1]'(by omega)))) := ⟨HE.out, fun h _ => absurd (by omega) hlast⟩
          go_wp2_with fail
          go_roundw
          case rel => exact ⟨k + 1, by omega, by go_num, HF, bx1, hbw1⟩
          case measure => simp [intOf]; omega
end Go.Proofs.Ythlpndgfphjlkaa
