/-
  Chapter 14: closed functions, and which instructions raise.
-/
import Derived.Test.YthlpndgfphjlkaaCfgTy
import Derived.Test.YthlpndgfphjlkaaRegZ
import Derived.Test.YthlpndgfphjlkaaBox
namespace Go.Proofs.Ythlpndgfphjlkaa
open Go.RowKit
set_option linter.unusedVariables false

/-- An instruction that leads out of a code of n instructions. -/
def badI (n : Nat) (x : Ins) : Prop := ((x.op = 11 ∨ x.op = 12) ∧ (x.jmp < 0 ∨ (n : Int) ≤ x.jmp)) ∨ x.hnd < -1 ∨ (n : Int) ≤ x.hnd
instance (n : Nat) (x : Ins) : Decidable (badI n x) := by unfold badI; exact inferInstance
def endI (x : Ins) : Prop := x.op = 12 ∨ x.op = 13 ∨ x.op = 14
instance (x : Ins) : Decidable (endI x) := by unfold endI; exact inferInstance
def Closed (code : List Ins) : Prop := (∀ i (h : i < code.length), ¬ badI code.length code[i]) ∧ ∀ h : 0 < code.length, endI (code[code.length - 1]'(by omega))
instance (code : List Ins) : Decidable (Closed code) := by
  unfold Closed
  exact inferInstanceAs (Decidable (_ ∧ _))
def raisesB (x : Ins) : Bool := decide (x.op = 9) || decide (x.op = 10) || decide (x.op = 14) || decide (x.op = 15)

theorem raises_any (x : Ins) (A : Option Addr) (c : Nat) (w : World) :
    Calls Try.prog 29 #[.agg #[.int .i64 x.op, .int .i64 x.dst, .int .i64 x.a, .int .i64 x.b, .int .i64 x.n, .string x.cls, .string x.name, .slice A x.args.length c, .int .i64 x.jmp, .int .i64 x.hnd]] w fun e w' => e = .returned (.bool (raisesB x)) ∧ Below w.heap.size w w' := by
  by_cases h1 : x.op = 9 ∨ x.op = 10 ∨ x.op = 14 ∨ x.op = 15
  · have HE : Hid (raisesB x = true) := by show _ = _; unfold raisesB; rcases h1 with h | h | h | h <;> simp [h]
    rcases h1 with h | h | h | h
    all_goals (go_enter Try.func29, Try.ntmps29; go_wp2_with fail; go_ret; exact ⟨by rw [HE.out]; rfl, (by repeat (first | assumption | exact Below.refl _ _ | apply bw_alloc | apply bw_drew | apply bw_drewN | apply bw_later | apply bw_step))⟩)
  · have h9 : x.op ≠ 9 := fun h => h1 (Or.inl h)
    have h10 : x.op ≠ 10 := fun h => h1 (Or.inr (Or.inl h))
    have h14 : x.op ≠ 14 := fun h => h1 (Or.inr (Or.inr (Or.inl h)))
    have h15 : x.op ≠ 15 := fun h => h1 (Or.inr (Or.inr (Or.inr h)))
    have HE : Hid (raisesB x = false) := by show _ = _; unfold raisesB; simp [h9, h10, h14, h15]
    clear h1
    go_enter Try.func29, Try.ntmps29
    go_wp2_with fail
    go_ret
    exact ⟨by rw [HE.out]; rfl, (by repeat (first | assumption | exact Below.refl _ _ | apply bw_alloc | apply bw_drew | apply bw_drewN | apply bw_later | apply bw_step))⟩
set_option maxRecDepth 100000 in
set_option maxHeartbeats 2000000 in
theorem closed_any (c0 n0 : ByteArray) (s0 : Bool) (p0 : Int) (AV : Option Addr) (nV cV : Nat) (r0 : ByteArray) (AC : Option Addr) (cC : Nat) (code : List Ins) (w : World) (hl : code.length ≤ 1024) (hs : Sl Lay.ins w AC code) :
    Calls Try.prog 16 #[.agg #[.string c0, .string n0, .bool s0, .int .i64 p0, .slice AV nV cV, .string r0, .slice AC code.length cC]] w fun e w' => e = .returned (.bool (decide (Closed code))) ∧ Below w.heap.size w w' := by
  have hb0 : Below w.heap.size w (w.alloc (.cells #[.string c0, .string n0, .bool s0, .int .i64 p0, .slice AV nV cV, .string r0, .slice AC code.length cC] 25)) := (by repeat (first | assumption | exact Below.refl _ _ | apply bw_alloc | apply bw_drew | apply bw_drewN | apply bw_later | apply bw_step))
  have bx0 := Box.new w [.string c0, .string n0, .bool s0, .int .i64 p0, .slice AV nV cV, .string r0, .slice AC code.length cC] 25
  have n1 : ¬ (1024 : Int) < (code.length : Int) := by omega
  go_enter Try.func16, Try.ntmps16
  go_wp2_with fail
  go_loopw [15] (fun i wr => ∃ k : Nat, k ≤ code.length ∧ i = .int .i64 k ∧ Hid (∀ i (h : i < code.length), i < k → ¬ badI code.length code[i]) ∧ Box wr w.heap.size [.string c0, .string n0, .bool s0, .int .i64 p0, .slice AV nV cV, .string r0, .slice AC code.length cC] 25 ∧ Below w.heap.size w wr) (fun i _ => code.length - (intOf i).toNat)
  case atStart => exact ⟨0, Nat.zero_le _, rfl, fun i h hi => by omega, bx0, hb0⟩
  case round =>
    obtain ⟨k, hk, rfl, HN, bx, hbw⟩ := hrel
    have bl := bx.lt
    have x6 := bx.cell 6 rfl
    by_cases hlt : k < code.length
    · obtain ⟨b, o, A7, c7, eA, hb, d0, d1, d2, d3, d4, d5, d6, d7, d8, d9, hc7, hs7⟩ := (hs.mono hbw).ins_at hlt
      subst eA
      by_cases hbad : badI code.length code[k]
      · have HR : Hid (decide (Closed code) = false) := decide_eq_false fun h => h.1 k hlt hbad
        by_cases p1 : (code[k].op = 11 ∨ code[k].op = 12) ∧ (code[k].jmp < 0 ∨ (code.length : Int) ≤ code[k].jmp)
        · obtain ⟨p1 | p1, p2 | p2⟩ := p1
          all_goals (clear hbad; go_wp2_with fail; all_goals (go_ret; exact ⟨by rw [HR.out]; rfl, (by repeat (first | assumption | exact Below.refl _ _ | apply bw_alloc | apply bw_drew | apply bw_drewN | apply bw_later | apply bw_step))⟩))
        · have p3 : code[k].hnd < -1 ∨ (code.length : Int) ≤ code[k].hnd := hbad.resolve_left p1
          clear hbad p1
          rcases p3 with p3 | p3
          all_goals (go_wp2_with fail; all_goals (go_ret; exact ⟨by rw [HR.out]; rfl, (by repeat (first | assumption | exact Below.refl _ _ | apply bw_alloc | apply bw_drew | apply bw_drewN | apply bw_later | apply bw_step))⟩))
      · have HE : Hid (∀ i (h : i < code.length), i < k + 1 → ¬ badI code.length code[i]) := fun i h hi => by
          by_cases e : i = k
          · subst e; exact hbad
          · exact HN.out i h (by omega)
        have q1 : ¬ code[k].hnd < -1 := fun h => hbad (Or.inr (Or.inl h))
        have q2 : code[k].hnd < (code.length : Int) := Int.not_le.1 fun h => hbad (Or.inr (Or.inr h))
        have q3 : (code[k].op = 11 ∨ code[k].op = 12) → 0 ≤ code[k].jmp ∧ code[k].jmp < (code.length : Int) := fun h => ⟨Int.not_lt.1 fun h2 => hbad (Or.inl ⟨h, Or.inl h2⟩), Int.not_le.1 fun h2 => hbad (Or.inl ⟨h, Or.inr h2⟩)⟩
        clear hbad
        by_cases o1 : code[k].op = 11
        · obtain ⟨j1, j2⟩ := q3 (Or.inl o1)
          clear q3
          go_wp2_with fail
          go_roundw
          case rel => exact ⟨k + 1, by omega, by go_num, HE, bx.alloc _, bw_alloc hbw⟩
          case measure => simp [intOf]; omega
        by_cases o2 : code[k].op = 12
        · obtain ⟨j1, j2⟩ := q3 (Or.inr o2)
          clear q3
          go_wp2_with fail
          go_roundw
          case rel => exact ⟨k + 1, by omega, by go_num, HE, bx.alloc _, bw_alloc hbw⟩
          case measure => simp [intOf]; omega
        · clear q3
          go_wp2_with fail
          go_roundw
          case rel => exact ⟨k + 1, by omega, by go_num, HE, bx.alloc _, bw_alloc hbw⟩
          case measure => simp [intOf]; omega
    · have HA : Hid (∀ i (h : i < code.length), ¬ badI code.length code[i]) := fun i h => HN.out i h (by omega)
      by_cases h0 : code.length = 0
      · have HR : Hid (decide (Closed code) = true) := decide_eq_true ⟨HA.out, fun h => by omega⟩
        have h1 : ((code.length : Int) == 0) = true := by simp [h0]
        clear h0
        go_wp2_with fail
        go_ret
        exact ⟨by rw [HR.out]; rfl, (by repeat (first | assumption | exact Below.refl _ _ | apply bw_alloc | apply bw_drew | apply bw_drewN | apply bw_later | apply bw_step))⟩
      · have h1 : ((code.length : Int) == 0) = false := by simpa using h0
        have hpos : 0 < code.length := by omega
        obtain ⟨m, hml, hsub, HO⟩ : ∃ (m : Nat) (hml : m < code.length), (code.length : Int) - 1 = (m : Int) ∧ Hid (∀ h : code.length - 1 < code.length, code[code.length - 1].op = code[m].op) := ⟨code.length - 1, by omega, by omega, fun _ => rfl⟩
        have HE : Hid (∀ P : Int → Prop, P (code[m].op) → P ((code[code.length - 1]'(by omega)).op)) := fun P h => by rw [HO.out (by omega)]; exact h
        obtain ⟨b, o, A7, c7, eA, hb, d0, -⟩ := (hs.mono hbw).ins_at hml
        subst eA
        have hmI : (m : Int) < (code.length : Int) := by omega
        clear h0
        by_cases o1 : code[m].op = 12
        · have HR : Hid (decide (Closed code) = true) := decide_eq_true ⟨HA.out, fun h => HE.out (fun z => z = 12 ∨ z = 13 ∨ z = 14) (Or.inl o1)⟩
          rw [o1] at d0
          clear o1
          go_wp2_with fail
          go_ret
          exact ⟨by rw [HR.out]; rfl, (by repeat (first | assumption | exact Below.refl _ _ | apply bw_alloc | apply bw_drew | apply bw_drewN | apply bw_later | apply bw_step))⟩
        by_cases o2 : code[m].op = 13
        · have HR : Hid (decide (Closed code) = true) := decide_eq_true ⟨HA.out, fun h => HE.out (fun z => z = 12 ∨ z = 13 ∨ z = 14) (Or.inr (Or.inl o2))⟩
          rw [o2] at d0
          clear o1 o2
          go_wp2_with fail
          go_ret
          exact ⟨by rw [HR.out]; rfl, (by repeat (first | assumption | exact Below.refl _ _ | apply bw_alloc | apply bw_drew | apply bw_drewN | apply bw_later | apply bw_step))⟩
        by_cases o3 : code[m].op = 14
        · have HR : Hid (decide (Closed code) = true) := decide_eq_true ⟨HA.out, fun h => HE.out (fun z => z = 12 ∨ z = 13 ∨ z = 14) (Or.inr (Or.inr o3))⟩
          rw [o3] at d0
          clear o1 o2 o3
          go_wp2_with fail
          go_ret
          exact ⟨by rw [HR.out]; rfl, (by repeat (first | assumption | exact Below.refl _ _ | apply bw_alloc | apply bw_drew | apply bw_drewN | apply bw_later | apply bw_step))⟩
        · have HR : Hid (decide (Closed code) = false) := decide_eq_false fun h => by
            have h2 := h.2 hpos
            unfold endI at h2
            rw [HO.out (by omega)] at h2
            rcases h2 with h | h | h
            · exact o1 h
            · exact o2 h
            · exact o3 h
          have e1 : (code[m].op == 12) = false := by simpa using o1
          have e2 : (code[m].op == 13) = false := by simpa using o2
          have e3 : (code[m].op == 14) = false := by simpa using o3
          go_wp2_with fail
          go_ret
          exact ⟨by rw [HR.out]; rfl, (by repeat (first | assumption | exact Below.refl _ _ | apply bw_alloc | apply bw_drew | apply bw_drewN | apply bw_later | apply bw_step))⟩
end Go.Proofs.Ythlpndgfphjlkaa
