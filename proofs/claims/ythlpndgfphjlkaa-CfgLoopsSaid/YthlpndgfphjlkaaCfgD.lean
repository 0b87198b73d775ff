/-
  Chapters 13, 14: the instructions that follow an instruction of a closed code: the reference.
-/
import Derived.Test.YthlpndgfphjlkaaCfgC
import Derived.Test.YthlpndgfphjlkaaNest
namespace Go.Proofs.Ythlpndgfphjlkaa
open Go.RowKit
set_option linter.unusedVariables false

theorem intTy : ElemTy Try.prog 38 3 1 8 (.int .i64 0) := ⟨Try.underlying38, by kernel_rfl, rfl, by omega⟩
/-- Where control goes on normally within the code, ascending. -/
def nextL (i : Nat) (x : Ins) : List Int :=
  if x.op = 13 ∨ x.op = 14 then [] else if x.op = 12 then [x.jmp] else if x.op = 11 then
    (if x.jmp = (i : Int) + 1 then [x.jmp] else if x.jmp < (i : Int) + 1 then [x.jmp, (i : Int) + 1] else [(i : Int) + 1, x.jmp]) else [(i : Int) + 1]
/-- What closedness says of one instruction. -/
structure ClosedAt (n i : Nat) (x : Ins) : Prop where
  jmp : x.op = 11 ∨ x.op = 12 → 0 ≤ x.jmp ∧ x.jmp < n
  hnd : -1 ≤ x.hnd ∧ x.hnd < n
  next : ¬ endI x → i + 1 < n
theorem Closed.at {code : List Ins} (h : Closed code) {i : Nat} (hi : i < code.length) : ClosedAt code.length i code[i] where
  jmp := fun h1 => by
    have := h.1 i hi
    unfold badI at this
    refine ⟨Int.not_lt.1 fun h2 => this (Or.inl ⟨h1, Or.inl h2⟩), Int.not_le.1 fun h2 => this (Or.inl ⟨h1, Or.inr h2⟩)⟩
  hnd := by
    have := h.1 i hi
    unfold badI at this
    refine ⟨Int.not_lt.1 fun h2 => this (Or.inr (Or.inl h2)), Int.not_le.1 fun h2 => this (Or.inr (Or.inr h2))⟩
  next := fun h1 => by
    have h2 := h.2 (by omega)
    by_cases e : i + 1 < code.length
    · exact e
    · have : code.length - 1 = i := by omega
      simp only [this] at h2
      exact absurd h2 h1

def RetOwn (w w' : World) (l : List Int) (e : Ending) : Prop := ∃ v, e = .returned v ∧ Own cellsInt 1 w.heap.size 3 w' v l
set_option maxRecDepth 100000 in
set_option maxHeartbeats 2000000 in
theorem refNext12_any (c0 n0 : ByteArray) (s0 : Bool) (p0 : Int) (AV : Option Addr) (nV cV : Nat) (r0 : ByteArray) (AC : Option Addr) (cC : Nat) (code : List Ins) (i : Nat) (w : World) (hl : code.length ≤ 1024) (hi : i < code.length) (hs : Sl Lay.ins w AC code) (hc : Hid (ClosedAt code.length i code[i])) :
    Calls Try.prog 76 #[.agg #[.string c0, .string n0, .bool s0, .int .i64 p0, .slice AV nV cV, .string r0, .slice AC code.length cC], .int .i64 i] w fun e w' => RetOwn w w' (nextL i code[i]) e ∧ Below w.heap.size w w' := by
  have hb0 : Below w.heap.size w (w.alloc (.cells #[.string c0, .string n0, .bool s0, .int .i64 p0, .slice AV nV cV, .string r0, .slice AC code.length cC] 25)) := (by repeat (first | assumption | exact Below.refl _ _ | apply bw_alloc | apply bw_drew | apply bw_drewN | apply bw_later | apply bw_step))
  have bx0 := Box.new w [.string c0, .string n0, .bool s0, .int .i64 p0, .slice AV nV cV, .string r0, .slice AC code.length cC] 25
  obtain ⟨b, o, A7, c7, eA, hb, d0, d1, d2, d3, d4, d5, d6, d7, d8, d9, hc7, hs7⟩ := hs.ins_at hi
  subst eA
  obtain ⟨L, HL⟩ : ∃ L, Hid (L = nextL i code[i]) := ⟨_, Lib.hid rfl⟩
  rw [← HL.out]
  go_enter Try.func76, Try.ntmps76
  go_upto_region 5 with fail
  generalize hW : World.alloc _ _ = W1
  have hb1 : Below w.heap.size w W1 := by rw [← hW]; exact (by repeat (first | assumption | exact Below.refl _ _ | apply bw_alloc | apply bw_drew | apply bw_drewN | apply bw_later | apply bw_step))
  have hz : w.heap.size ≤ W1.heap.size := hb1.size
  have by1 : Box W1 (w.heap.size + 1) [.int .i64 code[i].op, .int .i64 code[i].dst, .int .i64 code[i].a, .int .i64 code[i].b, .int .i64 code[i].n, .string code[i].cls, .string code[i].name, .slice A7 code[i].args.length c7, .int .i64 code[i].jmp, .int .i64 code[i].hnd] 52 := by rw [← hW]; exact Box.at (by simp)
  clear hW
  have l2 := by1.lt
  have y0 := by1.cell 0 rfl
  have y8 := by1.cell 8 rfl
  clear d0 d1 d2 d3 d4 d5 d6 d7 d8 d9 hb bx0 hb0
  by_cases o1 : code[i].op = 13
  · have HR : Hid (L = []) := by show _ = _; rw [HL.out, nextL, if_pos (Or.inl o1)]
    go_wp2_with fail
    go_ret
    exact ⟨⟨_, rfl, by rw [HR.out]; exact Own.nil⟩, hb1⟩
  by_cases o2 : code[i].op = 14
  · have HR : Hid (L = []) := by show _ = _; rw [HL.out, nextL, if_pos (Or.inr o2)]
    go_wp2_with fail
    go_ret
    exact ⟨⟨_, rfl, by rw [HR.out]; exact Own.nil⟩, hb1⟩
  have e1 : (code[i].op == 13) = false := by simpa using o1
  have e2 : (code[i].op == 14) = false := by simpa using o2
  by_cases o3 : code[i].op = 12
  · have HR : Hid (L = [code[i].jmp]) := by show _ = _; rw [HL.out, nextL, if_neg (by omega), if_pos o3]
    obtain ⟨j1, j2⟩ := hc.out.jmp (Or.inr o3)
    rw [o3] at y0
    clear o1 o2 e1 e2 o3
    go_wp2_with fail
    go_ret
    exact ⟨⟨_, rfl, by rw [HR.out]; exact Own.lit W1 #[.int .i64 code[i].jmp] [code[i].jmp] hz (by simp [maxLen]) rfl rfl⟩, (by repeat (first | assumption | exact Below.refl _ _ | apply bw_alloc | apply bw_drew | apply bw_drewN | apply bw_later | apply bw_step))⟩
  have e3 : (code[i].op == 12) = false := by simpa using o3
  have hin : i + 1 < code.length := hc.out.next fun h => by rcases h with h | h | h <;> contradiction
  have hinI : ¬ (code.length : Int) ≤ (i : Int) + 1 := by omega
  by_cases o4 : code[i].op = 11
  · obtain ⟨j1, j2⟩ := hc.out.jmp (Or.inl o4)
    have HR0 : Hid (L = if code[i].jmp = (i : Int) + 1 then [code[i].jmp] else if code[i].jmp < (i : Int) + 1 then [code[i].jmp, (i : Int) + 1] else [(i : Int) + 1, code[i].jmp]) := by
      show _ = _; rw [HL.out, nextL, if_neg (by omega), if_neg o3, if_pos o4]
    rw [o4] at y0
    clear o1 o2 e1 e2 o3 e3 o4
    by_cases p1 : code[i].jmp = (i : Int) + 1
    · have HR : Hid (L = [(i : Int) + 1]) := by show _ = _; rw [HR0.out, if_pos p1, p1]
      rw [p1] at y8 j1 j2
      clear p1 HR0
      go_wp2_with fail
      go_ret
      exact ⟨⟨_, rfl, by rw [HR.out]; exact Own.lit W1 #[.int .i64 ((i : Int) + 1)] [(i : Int) + 1] hz (by simp [maxLen]) rfl rfl⟩, (by repeat (first | assumption | exact Below.refl _ _ | apply bw_alloc | apply bw_drew | apply bw_drewN | apply bw_later | apply bw_step))⟩
    have p1' : (code[i].jmp == (i : Int) + 1) = false := by simpa using p1
    have hs1 : (W1.alloc (.cells #[.int .i64 code[i].jmp] 3)).heap.size = W1.heap.size + 1 := by simp
    by_cases p2 : code[i].jmp < (i : Int) + 1
    · have HR : Hid (L = [code[i].jmp, (i : Int) + 1]) := by show _ = _; rw [HR0.out, if_neg p1, if_pos p2]
      have ho : Own cellsInt 1 w.heap.size 3 ((W1.alloc (.cells #[.int .i64 code[i].jmp] 3)).alloc (.cells #[.int .i64 code[i].jmp, .int .i64 ((i : Int) + 1)] 3)) (.slice (some ⟨W1.heap.size + 1, 0, none⟩) 2 2) [code[i].jmp, (i : Int) + 1] := by
        rw [← hs1]
        exact Own.lit _ #[.int .i64 code[i].jmp, .int .i64 ((i : Int) + 1)] [code[i].jmp, (i : Int) + 1] (by rw [hs1]; omega) (by simp [maxLen]) rfl rfl
      clear HR0
      go_wp2_with fail
      go_ret
      exact ⟨⟨_, rfl, by rw [HR.out]; exact ho⟩, (by repeat (first | assumption | exact Below.refl _ _ | apply bw_alloc | apply bw_drew | apply bw_drewN | apply bw_later | apply bw_step))⟩
    · have HR : Hid (L = [(i : Int) + 1, code[i].jmp]) := by show _ = _; rw [HR0.out, if_neg p1, if_neg p2]
      have ho : Own cellsInt 1 w.heap.size 3 ((W1.alloc (.cells #[.int .i64 code[i].jmp] 3)).alloc (.cells #[.int .i64 ((i : Int) + 1)] 3)) (.slice (some ⟨W1.heap.size + 1, 0, none⟩) 1 1) [(i : Int) + 1] := by
        rw [← hs1]
        exact Own.lit _ #[.int .i64 ((i : Int) + 1)] [(i : Int) + 1] (by rw [hs1]; omega) (by simp [maxLen]) rfl rfl
      obtain ⟨v', w', hrun, ho', hb', hg', hsz'⟩ := run_push intTy cellsInt_ok 38 ho code[i].jmp W1.heap.size 1 (fun j u hj => ((Box.new W1 [.int .i64 code[i].jmp] 3).alloc _).cell j hj) (by simp [maxLen]) (by simp) (by simp; omega)
      clear HR0
      go_wp2_with (at_builtin; refine wpList_appendRun rfl (.tmp 97) (.tmp 98) 38 rfl rfl rfl hrun ?_)
      go_ret
      exact ⟨⟨_, rfl, by rw [HR.out]; exact ho'⟩, (bw_alloc (bw_alloc hb1)).trans hb'⟩
  · have HR : Hid (L = [(i : Int) + 1]) := by show _ = _; rw [HL.out, nextL, if_neg (by omega), if_neg o3, if_neg o4]
    have e4 : (code[i].op == 11) = false := by simpa using o4
    have ho : Own cellsInt 1 w.heap.size 3 (W1.alloc (.cells #[.int .i64 ((i : Int) + 1)] 3)) (.slice (some ⟨W1.heap.size, 0, none⟩) 1 1) [(i : Int) + 1] := Own.lit W1 #[.int .i64 ((i : Int) + 1)] [(i : Int) + 1] hz (by simp [maxLen]) rfl rfl
    obtain ⟨v', w', hrun, ho', hb', hg', hsz'⟩ := run_pushAll (L := Lay.int) (A := none) (c := 0) (l2 := []) intTy cellsInt_ok 38 ho (fun x vs h => h) rfl Sl.nil (by simp [maxLen]) (by simp) (by simp; omega)
    go_wp2_with (at_builtin; refine wpList_appendRun rfl (.tmp 97) (.tmp 98) 38 rfl rfl rfl hrun ?_)
    go_ret
    exact ⟨⟨_, rfl, by rw [HR.out]; exact ho'⟩, (bw_alloc hb1).trans hb'⟩
end Go.Proofs.Ythlpndgfphjlkaa
