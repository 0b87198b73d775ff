/-
  Chapter 14: the reference's normal.
-/
import Derived.Test.YthlpndgfphjlkaaCfgD
namespace Go.Proofs.Ythlpndgfphjlkaa
open Go.RowKit
set_option linter.unusedVariables false

theorem Own.base_le' {α : Type} {cells : α → List Value} {size base base' : Nat} {e : TypeId} {w : World} {v : Value} {l : List α} (h : Own cells size base e w v l) (hb : base' ≤ base) : Own cells size base' e w v l := by
  refine ⟨h.1, ?_⟩
  rcases h.2 with h1 | ⟨g, cap, cur, h1, h2, h3⟩
  · exact Or.inl h1
  · exact Or.inr ⟨g, cap, cur, h1, Nat.le_trans hb h2, h3⟩
theorem refNext_any (c0 n0 : ByteArray) (s0 : Bool) (p0 : Int) (AV : Option Addr) (nV cV : Nat) (r0 : ByteArray) (AC : Option Addr) (cC : Nat) (code : List Ins) (i : Nat) (w : World) (hl : code.length ≤ 1024) (hi : i < code.length) (hs : Sl Lay.ins w AC code) (hc : Hid (ClosedAt code.length i code[i])) :
    Calls Try.prog 53 #[.agg #[.string c0, .string n0, .bool s0, .int .i64 p0, .slice AV nV cV, .string r0, .slice AC code.length cC], .int .i64 i] w fun e w' => RetOwn w w' (nextL i code[i]) e ∧ Below w.heap.size w w' := by
  have hb0 : Below w.heap.size w (w.alloc (.cells #[.string c0, .string n0, .bool s0, .int .i64 p0, .slice AV nV cV, .string r0, .slice AC code.length cC] 25)) := (by repeat (first | assumption | exact Below.refl _ _ | apply bw_alloc | apply bw_drew | apply bw_drewN | apply bw_later | apply bw_step))
  go_enter Try.func53, Try.ntmps53
  go_wp2_with fail
  refine (refNext12_any c0 n0 s0 p0 AV nV cV r0 AC cC code i _ hl hi (hs.mono hb0) hc).mono ?_
  rintro e w1 ⟨⟨v, rfl, hv⟩, hb1⟩
  go_wp2_with fail
  go_ret
  exact ⟨⟨_, rfl, hv.base_le' hb0.size⟩, below_step hb0 hb1⟩
def normL (n i : Nat) (x : Ins) : List Int := if x.op = 13 then [(n : Int)] else nextL i x
theorem normal_any (c0 n0 : ByteArray) (s0 : Bool) (p0 : Int) (AV : Option Addr) (nV cV : Nat) (r0 : ByteArray) (AC : Option Addr) (cC : Nat) (code : List Ins) (i : Nat) (w : World) (hl : code.length ≤ 1024) (hi : i < code.length) (hs : Sl Lay.ins w AC code) (hc : Hid (ClosedAt code.length i code[i])) :
    Calls Try.prog 35 #[.agg #[.string c0, .string n0, .bool s0, .int .i64 p0, .slice AV nV cV, .string r0, .slice AC code.length cC], .int .i64 i] w fun e w' => RetOwn w w' (normL code.length i code[i]) e ∧ Below w.heap.size w w' := by
  have hb0 : Below w.heap.size w (w.alloc (.cells #[.string c0, .string n0, .bool s0, .int .i64 p0, .slice AV nV cV, .string r0, .slice AC code.length cC] 25)) := (by repeat (first | assumption | exact Below.refl _ _ | apply bw_alloc | apply bw_drew | apply bw_drewN | apply bw_later | apply bw_step))
  obtain ⟨b, o, A7, c7, eA, hb, d0, -⟩ := hs.ins_at hi
  subst eA
  by_cases h : code[i].op = 13
  · have HR : Hid (normL code.length i code[i] = [(code.length : Int)]) := if_pos h
    have ho : Own cellsInt 1 w.heap.size 3 ((w.alloc (.cells #[.string c0, .string n0, .bool s0, .int .i64 p0, .slice AV nV cV, .string r0, .slice (some ⟨b, o, none⟩) code.length cC] 25)).alloc (.cells #[.int .i64 (code.length : Int)] 3)) (.slice (some ⟨w.heap.size + 1, 0, none⟩) 1 1) [(code.length : Int)] := by
      have hs1 : (w.alloc (.cells #[.string c0, .string n0, .bool s0, .int .i64 p0, .slice AV nV cV, .string r0, .slice (some ⟨b, o, none⟩) code.length cC] 25)).heap.size = w.heap.size + 1 := by simp
      rw [← hs1]
      exact Own.lit _ #[.int .i64 (code.length : Int)] [(code.length : Int)] (by rw [hs1]; omega) (by simp [maxLen]) rfl rfl
    rw [h] at d0
    clear h
    go_enter Try.func35, Try.ntmps35
    go_wp2_with fail
    go_ret
    exact ⟨⟨_, rfl, by rw [HR.out]; exact ho⟩, (by repeat (first | assumption | exact Below.refl _ _ | apply bw_alloc | apply bw_drew | apply bw_drewN | apply bw_later | apply bw_step))⟩
  · have HR : Hid (normL code.length i code[i] = nextL i code[i]) := if_neg h
    have h' : (code[i].op == 13) = false := by simpa using h
    go_enter Try.func35, Try.ntmps35
    go_wp2_with fail
    refine (refNext_any c0 n0 s0 p0 AV nV cV r0 (some ⟨b, o, none⟩) cC code i _ hl hi (hs.mono hb0) hc).mono ?_
    rintro e w1 ⟨⟨v, rfl, hv⟩, hb1⟩
    go_wp2_with fail
    go_ret
    exact ⟨⟨_, rfl, by rw [HR.out]; exact hv.base_le' hb0.size⟩, below_step hb0 hb1⟩
end Go.Proofs.Ythlpndgfphjlkaa
