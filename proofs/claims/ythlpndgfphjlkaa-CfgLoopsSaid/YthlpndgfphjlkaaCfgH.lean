/-
  Chapter 14: the reference's next.
-/
import Derived.Test.YthlpndgfphjlkaaCfgG
namespace Go.Proofs.Ythlpndgfphjlkaa
open Go.RowKit
set_option linter.unusedVariables false

/-- All nodes to which edges lead from an instruction, ascending. -/
def allL (n i : Nat) (x : Ins) : List Int := if 0 ≤ raisedI n x then putL (normL n i x) (raisedI n x) else normL n i x
theorem nextL_len (i : Nat) (x : Ins) : (nextL i x).length ≤ 2 := by
  unfold nextL
  (repeat' split) <;> simp
theorem normL_len (n i : Nat) (x : Ins) : (normL n i x).length ≤ 2 := by
  unfold normL
  split
  · simp
  · exact nextL_len i x
theorem refNextAll_any (c0 n0 : ByteArray) (s0 : Bool) (p0 : Int) (AV : Option Addr) (nV cV : Nat) (r0 : ByteArray) (AC : Option Addr) (cC : Nat) (code : List Ins) (i : Nat) (w : World) (hl : code.length ≤ 1024) (hi : i < code.length) (hs : Sl Lay.ins w AC code) (hc : Hid (ClosedAt code.length i code[i])) :
    Calls Try.prog 20 #[.agg #[.string c0, .string n0, .bool s0, .int .i64 p0, .slice AV nV cV, .string r0, .slice AC code.length cC], .int .i64 i] w fun e w' => RetOwn w w' (allL code.length i code[i]) e ∧ Below w.heap.size w w' := by
  have hb0 : Below w.heap.size w (w.alloc (.cells #[.string c0, .string n0, .bool s0, .int .i64 p0, .slice AV nV cV, .string r0, .slice AC code.length cC] 25)) := (by repeat (first | assumption | exact Below.refl _ _ | apply bw_alloc | apply bw_drew | apply bw_drewN | apply bw_later | apply bw_step))
  have bx0 := Box.new w [.string c0, .string n0, .bool s0, .int .i64 p0, .slice AV nV cV, .string r0, .slice AC code.length cC] 25
  have hnl := normL_len code.length i code[i]
  obtain ⟨R, HL⟩ : ∃ R, Hid (R = allL code.length i code[i]) := ⟨_, Lib.hid rfl⟩
  rw [← HL.out]
  go_enter Try.func20, Try.ntmps20
  go_wp2_with fail
  refine (normal_any c0 n0 s0 p0 AV nV cV r0 AC cC code i _ hl hi (hs.mono hb0) hc).mono ?_
  rintro e w1 ⟨⟨v, rfl, hv⟩, hb1⟩
  have hv' := hv.base_le' hb0.size
  obtain ⟨A1, c1, rfl, hc1, hs1⟩ := hv.sl (L := Lay.int) rfl (fun x => rfl)
  have bx1 := bx0.mono hb1
  have bl1 := bx1.lt
  have q0 := bx1.cell 0 rfl
  have q1 := bx1.cell 1 rfl
  have q2 := bx1.cell 2 rfl
  have q3 := bx1.cell 3 rfl
  have q4 := bx1.cell 4 rfl
  have q5 := bx1.cell 5 rfl
  have q6 := bx1.cell 6 rfl
  have hbw1 := below_step hb0 hb1
  go_wp2_with fail
  refine (raised_any c0 n0 s0 p0 AV nV cV r0 AC cC code i _ hl hi (hs.mono hbw1)).mono ?_
  rintro e w2 ⟨rfl, hb2⟩
  obtain ⟨r, HRr⟩ : ∃ r : Int, Hid (r = raisedI code.length code[i]) := ⟨_, Lib.hid rfl⟩
  rw [← HRr.out]
  obtain ⟨N, HNn⟩ : ∃ N, Hid (N = normL code.length i code[i]) := ⟨_, Lib.hid rfl⟩
  rw [← HNn.out] at hs1 hc1 hnl hv' ⊢
  by_cases h : 0 ≤ r
  · have HE : Hid (R = putL N r) := by show _ = _; rw [HL.out]; unfold allL; rw [← HRr.out, ← HNn.out, if_pos h]
    go_wp2_with fail
    refine (put_any A1 c1 N r _ (by omega) hc1 (hs1.mono hb2)).mono ?_
    have hsz2 := (below_step hbw1 hb2).size
    rintro e w3 ⟨⟨v3, rfl, hv3⟩ | ⟨rfl, HQ⟩, hb3⟩
    · go_wp2_with fail
      go_ret
      exact ⟨by rw [HE.out]; exact ⟨v3, rfl, hv3.base_le' hsz2⟩, below_step (below_step hbw1 hb2) hb3⟩
    · replace HQ := Lib.hid HQ
      go_wp2_with fail
      go_ret
      exact ⟨by rw [HE.out, HQ.out]; exact ⟨_, rfl, (hv'.mono hb2).mono hb3⟩, below_step (below_step hbw1 hb2) hb3⟩
  · have HE : Hid (R = N) := by show _ = _; rw [HL.out]; unfold allL; rw [← HRr.out, ← HNn.out, if_neg h]
    go_wp2_with fail
    go_ret
    exact ⟨by rw [HE.out]; exact ⟨_, rfl, hv'.mono hb2⟩, below_step hbw1 hb2⟩
end Go.Proofs.Ythlpndgfphjlkaa
