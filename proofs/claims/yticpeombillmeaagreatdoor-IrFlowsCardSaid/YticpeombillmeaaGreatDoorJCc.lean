/-
  Chapter 14: the reference's Put: a number in its place, once.
  Chapter 14: the walk of the reference's Put.
  Chapter 14: the reference's next.
  Chapter 14: the nodes that follow an instruction: ascending, and which they are. Plain mathematics.
  Chapter 14: the reference's Graph.
  Chapter 14: ir.Next.
  Chapter 13: what control does in a valid unit (plain).
-/
import Derived.Test.YticpeombillmeaaGreatDoorJCb
import Derived.Test.YticpeombillmeaaGreatDoorJCa
import Derived.Test.YticpeombillmeaaGreatDoorJIv
namespace Go.Proofs.YticpeombillmeaaGreatDoor
open Go.RowKit
set_option linter.unusedVariables false

end Go.Proofs.YticpeombillmeaaGreatDoor
namespace Go.Proofs.YticpeombillmeaaGreatDoor
open Go.RowKit
set_option linter.unusedVariables false

end Go.Proofs.YticpeombillmeaaGreatDoor
namespace Go.Proofs.YticpeombillmeaaGreatDoor
open Go.RowKit
set_option linter.unusedVariables false

end Go.Proofs.YticpeombillmeaaGreatDoor
namespace Go.Proofs.YticpeombillmeaaGreatDoor
set_option linter.unusedVariables false

theorem nextL_asc (i : Nat) (x : Ins) : (nextL i x).Pairwise (· < ·) := by
  unfold nextL
  (repeat' split) <;> simp
  · assumption
  · omega
end Go.Proofs.YticpeombillmeaaGreatDoor
namespace Go.Proofs.YticpeombillmeaaGreatDoor
open Go.RowKit
set_option linter.unusedVariables false

theorem Own.isSl {α : Type} {cells : α → List Value} {size base : Nat} {e : TypeId} {w : World} {v : Value} {l : List α} (h : Own cells size base e w v l) : ∃ A n c, v = .slice A n c := by
  rcases h.2 with ⟨rfl, _⟩ | ⟨g, cap, cur, rfl, _⟩
  · exact ⟨_, _, _, rfl⟩
  · exact ⟨_, _, _, rfl⟩
end Go.Proofs.YticpeombillmeaaGreatDoor
namespace Go.Proofs.YticpeombillmeaaGreatDoor
open Go.RowKit
set_option linter.unusedVariables false

/-- What Next keeps: the function's box, and the box of the row. -/
structure InN (w : World) (fv : List Value) (bf bl : Nat) (l : List Int) (wr : World) : Prop where
  hf : Box wr bf fv 43
  hbl : w.heap.size ≤ bl ∧ bf ≠ bl
  g : ∃ A m c, Box wr bl [.slice A m c] 44 ∧ Own cellsInt 1 w.heap.size 3 wr (.slice A m c) l
  bel : Below w.heap.size w wr
theorem InN.push {w : World} {fv : List Value} {bf bl : Nat} {l : List Int} {wr W1 : World} (h : InN w fv bf bl l wr) (hl : l.length ≤ 100000) (hbW : Below wr.heap.size wr W1) (y : Int) :
    ∃ A m c, Box W1 bl [.slice A m c] 44 ∧ Box wr bl [.slice A m c] 44 ∧ ∃ v' w', (Builtin.append_ #[44, 44] 44 #[.slice A m c, .slice (some ⟨W1.heap.size, 0, none⟩) 1 1]).run Tryz.prog (W1.alloc (.cells #[.int .i64 y] 3)) = .ok v' w' ∧
      Box w' bl [.slice A m c] 44 ∧ (∃ B q d, v' = .slice B q d) ∧ Below w.heap.size wr w' ∧ InN w fv bf bl (l ++ [y]) (w'.setCell ⟨bl, 0, none⟩ v') := by
  obtain ⟨A, m, c, hbs, hown⟩ := h.g
  have hsz := h.bel.size
  have hb1 : Below wr.heap.size wr (W1.alloc (.cells #[.int .i64 y] 3)) := bw_alloc hbW
  obtain ⟨v', w', hrun, ho', hb', hg', hsz'⟩ := run_push intTy cellsInt_ok 44 (hown.mono hb1) y W1.heap.size 1 (cells_one_new _ _ _) (by unfold maxLen; omega) (by omega) (by have := hb1.size; omega)
  have hbs1 := hbs.mono hb1
  have hbs' := hbs1.grown hg' ((hown.mono hb1).ne_box hbs1 (by decide))
  have hf1 := h.hf.mono hb1
  have hf' := hf1.grown hg' ((hown.mono hb1).ne_box hf1 (by decide))
  obtain ⟨hbl, hne⟩ := h.hbl
  obtain ⟨A', n', c', rfl⟩ := ho'.isSl
  refine ⟨A, m, c, hbs.mono hbW, hbs, _, w', hrun, hbs', ⟨_, _, _, rfl⟩, (hb1.mono hsz).trans hb', ⟨?_, h.hbl, ⟨A', n', c', hbs'.set 0 _, ?_⟩, ?_⟩⟩
  · exact hf'.setOther (fun h => hne h.symm) _
  · exact ho'.kept_box hbs' (by decide) (grown_set _ _ _ _)
  · exact ((h.bel.trans (hb1.mono hsz)).trans hb').setCell hbl _

def addL (n : Nat) (l : List Int) (j : Int) : List Int := if 0 ≤ j ∧ j < n then l ++ [j] else l
set_option maxRecDepth 100000 in
theorem nextAdd_any (c0 n0 : ByteArray) (s0 : Bool) (p0 : Int) (AV : Option Addr) (nV cV : Nat) (r0 : ByteArray) (AC : Option Addr) (cC : Nat) (code : List Ins) (w0 w : World) (bf bl : Nat) (l : List Int) (j : Int) (hl : l.length ≤ 1000) (hn : code.length ≤ 1024) (hin : InN w0 [.string c0, .string n0, .bool s0, .int .i64 p0, .slice AV nV cV, .string r0, .slice AC code.length cC] bf bl l w) :
    Calls Tryz.prog 41 #[.int .i64 j, .pointer (some ⟨bf, 0, none⟩), .pointer (some ⟨bl, 0, none⟩)] w fun e w' => (∃ v, e = .returned v) ∧ InN w0 [.string c0, .string n0, .bool s0, .int .i64 p0, .slice AV nV cV, .string r0, .slice AC code.length cC] bf bl (addL code.length l j) w' := by
  have x6 := hin.hf.cell 6 rfl
  have xl := hin.hf.lt
  by_cases h0 : 0 ≤ j
  · by_cases h1 : j < code.length
    · have HB : Hid (addL code.length l j = l ++ [j]) := if_pos ⟨h0, h1⟩
      obtain ⟨A, m, c, hb1, hb2, v', w', hrun, hbx, ⟨B, q, d, rfl⟩, hbel, hnext⟩ := hin.push (W1 := w) (by omega) (Below.refl _ _) j
      have y0 := hb1.cell 0 rfl
      have yl := hb1.lt
      have z0 := hbx.cell 0 rfl
      have zl := hbx.lt
      have zf := fun i => hbx.free i
      go_enter Tryz.func41, Tryz.ntmps41
      go_wp2_with (at_builtin; refine wpList_appendRun rfl (.tmp 13) (.tmp 15) 44 rfl rfl rfl hrun ?_)
      go_end0
      exact ⟨⟨_, rfl⟩, by rw [HB.out]; exact hnext⟩
    · have HB : Hid (addL code.length l j = l) := if_neg fun h => h1 h.2
      go_enter Tryz.func41, Tryz.ntmps41
      go_wp2_with fail
      go_end0
      exact ⟨⟨_, rfl⟩, by rw [HB.out]; exact hin⟩
  · have HB : Hid (addL code.length l j = l) := if_neg fun h => h0 h.1
    go_enter Tryz.func41, Tryz.ntmps41
    go_wp2_with fail
    go_end0
    exact ⟨⟨_, rfl⟩, by rw [HB.out]; exact hin⟩
/-- What Next collects ahead of the sort. -/
def preL (i : Nat) (x : Ins) : List Int := if x.op = 13 ∨ x.op = 14 then [] else if x.op = 12 then [x.jmp] else if x.op = 11 then [(i : Int) + 1, x.jmp] else [(i : Int) + 1]
theorem preL_len (i : Nat) (x : Ins) : (preL i x).length ≤ 2 := by
  unfold preL
  (repeat' split) <;> simp
theorem ascI_preL (i : Nat) (x : Ins) : ascI (preL i x) = nextL i x := by
  refine asc_ext (ascI_spec _).1 (nextL_asc i x) fun z => ?_
  rw [(ascI_spec _).2]
  unfold preL nextL
  (repeat' split) <;> simp <;> omega
theorem addL_in {n : Nat} {l : List Int} {j : Int} (h0 : 0 ≤ j) (h1 : j < n) : addL n l j = l ++ [j] := if_pos ⟨h0, h1⟩

set_option maxRecDepth 100000 in
set_option maxHeartbeats 2000000 in
theorem next_any (c0 n0 : ByteArray) (s0 : Bool) (p0 : Int) (AV : Option Addr) (nV cV : Nat) (r0 : ByteArray) (AC : Option Addr) (cC : Nat) (code : List Ins) (i : Nat) (w : World) (hl : code.length ≤ 1024) (hi : i < code.length) (hs : Sl Lay.ins w AC code) (hc : Hid (ClosedAt code.length i code[i])) :
    Calls Tryz.prog 14 #[.agg #[.string c0, .string n0, .bool s0, .int .i64 p0, .slice AV nV cV, .string r0, .slice AC code.length cC], .int .i64 i] w fun e w' => RetOwn w w' (nextL i code[i]) e ∧ Below w.heap.size w w' := by
  have bf0 : Box ((w.alloc (.cells #[.string c0, .string n0, .bool s0, .int .i64 p0, .slice AV nV cV, .string r0, .slice AC code.length cC] 43)).alloc (.cells #[.slice none 0 0] 44)) w.heap.size [.string c0, .string n0, .bool s0, .int .i64 p0, .slice AV nV cV, .string r0, .slice AC code.length cC] 43 := (Box.new w _ _).alloc _
  have hb0 : Below w.heap.size w ((w.alloc (.cells #[.string c0, .string n0, .bool s0, .int .i64 p0, .slice AV nV cV, .string r0, .slice AC code.length cC] 43)).alloc (.cells #[.slice none 0 0] 44)) := (by repeat (first | assumption | exact Below.refl _ _ | apply bw_alloc | apply bw_drew | apply bw_drewN | apply bw_later | apply bw_step))
  have hin : InN w [.string c0, .string n0, .bool s0, .int .i64 p0, .slice AV nV cV, .string r0, .slice AC code.length cC] w.heap.size (w.heap.size + 1) [] ((w.alloc (.cells #[.string c0, .string n0, .bool s0, .int .i64 p0, .slice AV nV cV, .string r0, .slice AC code.length cC] 43)).alloc (.cells #[.slice none 0 0] 44)) := ⟨bf0, ⟨by omega, by omega⟩, ⟨none, 0, 0, Box.at (by simp), Own.nil⟩, hb0⟩
  have hpl := preL_len i code[i]
  obtain ⟨P, HP⟩ : ∃ P, Hid (P = preL i code[i]) := ⟨_, Lib.hid rfl⟩
  have HR : Hid (ascI P = nextL i code[i]) := by show _ = _; rw [HP.out]; exact ascI_preL i code[i]
  rw [← HP.out] at hpl
  rw [← HR.out]
  obtain ⟨b, o, A7, c7, eA, hb, d0, d1, d2, d3, d4, d5, d6, d7, d8, d9, hc7, hs7⟩ := (hs.mono hb0).ins_at hi
  subst eA
  have g6 := bf0.cell 6 rfl
  have gl := bf0.lt
  have i0 : ¬ (i : Int) < 0 := by omega
  have i1 : ¬ (code.length : Int) ≤ (i : Int) := by omega
  go_enter Tryz.func14, Tryz.ntmps14
  go_upto_region 7 with fail
  generalize hW : World.alloc _ _ = W1 at *
  clear hW bf0
  have hnx := hc.out.next
  have hjm := hc.out.jmp
  by_cases o1 : code[i].op = 13
  · have HE : Hid (P = []) := by show _ = _; rw [HP.out, preL, if_pos (Or.inl o1)]
    have hin3 : InN w [.string c0, .string n0, .bool s0, .int .i64 p0, .slice AV nV cV, .string r0, .slice (some ⟨b, o, none⟩) code.length cC] w.heap.size (w.heap.size + 1) P W1 := by rw [HE.out]; exact hin
    rw [o1]
    clear hnx hjm o1
    obtain ⟨A3, m3, c3, hbx3, ho3⟩ := hin3.g
    have y3 := hbx3.cell 0 rfl
    have yl3 := hbx3.lt
    have hbw3 := hin3.bel
    go_wp2_with fail
    refine (sortInts_ownG _ P w.heap.size _ ho3 (by omega)).mono ?_
    rintro e w4 ⟨rfl, ho4, hg4⟩
    have hbx4 := hbx3.grown hg4 (ho3.ne_box hbx3 (by decide))
    have hbw4 := hbw3.grown hg4 hbw3.size (fun k hk => (ho3.lt k hk).1)
    have y4 := hbx4.cell 0 rfl
    have yl4 := hbx4.lt
    go_wp2_with fail
    refine (compactInts_ownG _ (sortI P) w.heap.size _ ho4 (by rw [sortI_len]; omega)).mono ?_
    rintro e w5 ⟨⟨v5, rfl, ho5⟩, hg5⟩
    have hbw5 := hbw4.grown hg5 hbw4.size (fun k hk => (ho4.lt k hk).1)
    go_wp2_with fail
    go_ret
    exact ⟨⟨_, rfl, ho5⟩, hbw5⟩
  by_cases o2 : code[i].op = 14
  · have HE : Hid (P = []) := by show _ = _; rw [HP.out, preL, if_pos (Or.inr o2)]
    have hin3 : InN w [.string c0, .string n0, .bool s0, .int .i64 p0, .slice AV nV cV, .string r0, .slice (some ⟨b, o, none⟩) code.length cC] w.heap.size (w.heap.size + 1) P W1 := by rw [HE.out]; exact hin
    rw [o2]
    clear hnx hjm o1 o2
    obtain ⟨A3, m3, c3, hbx3, ho3⟩ := hin3.g
    have y3 := hbx3.cell 0 rfl
    have yl3 := hbx3.lt
    have hbw3 := hin3.bel
    go_wp2_with fail
    refine (sortInts_ownG _ P w.heap.size _ ho3 (by omega)).mono ?_
    rintro e w4 ⟨rfl, ho4, hg4⟩
    have hbx4 := hbx3.grown hg4 (ho3.ne_box hbx3 (by decide))
    have hbw4 := hbw3.grown hg4 hbw3.size (fun k hk => (ho3.lt k hk).1)
    have y4 := hbx4.cell 0 rfl
    have yl4 := hbx4.lt
    go_wp2_with fail
    refine (compactInts_ownG _ (sortI P) w.heap.size _ ho4 (by rw [sortI_len]; omega)).mono ?_
    rintro e w5 ⟨⟨v5, rfl, ho5⟩, hg5⟩
    have hbw5 := hbw4.grown hg5 hbw4.size (fun k hk => (ho4.lt k hk).1)
    go_wp2_with fail
    go_ret
    exact ⟨⟨_, rfl, ho5⟩, hbw5⟩
  by_cases o3 : code[i].op = 12
  · have HE : Hid (P = [code[i].jmp]) := by show _ = _; rw [HP.out, preL, if_neg (by omega), if_pos o3]
    obtain ⟨j1, j2⟩ := hjm (Or.inr o3)
    rw [o3]
    clear hnx hjm o1 o2 o3
    go_wp2_with fail
    refine (nextAdd_any c0 n0 s0 p0 AV nV cV r0 (some ⟨b, o, none⟩) cC code w _ _ _ [] code[i].jmp (by simp) hl hin).mono ?_
    rintro e w2 ⟨⟨v2, rfl⟩, hin2⟩
    have hin3 : InN w [.string c0, .string n0, .bool s0, .int .i64 p0, .slice AV nV cV, .string r0, .slice (some ⟨b, o, none⟩) code.length cC] w.heap.size (w.heap.size + 1) P w2 := by rw [HE.out]; rw [addL_in j1 j2] at hin2; exact hin2
    clear hin2 hin
    obtain ⟨A3, m3, c3, hbx3, ho3⟩ := hin3.g
    have y3 := hbx3.cell 0 rfl
    have yl3 := hbx3.lt
    have hbw3 := hin3.bel
    go_wp2_with fail
    refine (sortInts_ownG _ P w.heap.size _ ho3 (by omega)).mono ?_
    rintro e w4 ⟨rfl, ho4, hg4⟩
    have hbx4 := hbx3.grown hg4 (ho3.ne_box hbx3 (by decide))
    have hbw4 := hbw3.grown hg4 hbw3.size (fun k hk => (ho3.lt k hk).1)
    have y4 := hbx4.cell 0 rfl
    have yl4 := hbx4.lt
    go_wp2_with fail
    refine (compactInts_ownG _ (sortI P) w.heap.size _ ho4 (by rw [sortI_len]; omega)).mono ?_
    rintro e w5 ⟨⟨v5, rfl, ho5⟩, hg5⟩
    have hbw5 := hbw4.grown hg5 hbw4.size (fun k hk => (ho4.lt k hk).1)
    go_wp2_with fail
    go_ret
    exact ⟨⟨_, rfl, ho5⟩, hbw5⟩
  have e1 : (code[i].op == 13) = false := by simpa using o1
  have e2 : (code[i].op == 14) = false := by simpa using o2
  have e3 : (code[i].op == 12) = false := by simpa using o3
  have hn2 : i + 1 < code.length := hnx (fun h => by unfold endI at h; omega)
  have i2 : (i : Int) + 1 < code.length := by omega
  have i3 : 0 ≤ (i : Int) + 1 := by omega
  by_cases o4 : code[i].op = 11
  · have HE : Hid (P = [(i : Int) + 1, code[i].jmp]) := by show _ = _; rw [HP.out, preL, if_neg (by omega), if_neg o3, if_pos o4]
    obtain ⟨j1, j2⟩ := hjm (Or.inl o4)
    rw [o4]
    clear hnx hjm o1 o2 o3 o4 e1 e2 e3
    go_wp2_with fail
    refine (nextAdd_any c0 n0 s0 p0 AV nV cV r0 (some ⟨b, o, none⟩) cC code w _ _ _ [] ((i : Int) + 1) (by simp) hl hin).mono ?_
    rintro e w2 ⟨⟨v2, rfl⟩, hin2⟩
    rw [addL_in i3 i2, List.nil_append] at hin2
    have f6 := hin2.hf.cell 6 rfl
    have fl := hin2.hf.lt
    obtain ⟨b', o', A7', c7', eA, hb', -, -, -, -, -, -, -, -, d8', -⟩ := (hs.mono hin2.bel).ins_at hi
    injection eA with eA
    injection eA with eb eo
    subst eb eo
    go_wp2_with fail
    refine (nextAdd_any c0 n0 s0 p0 AV nV cV r0 (some ⟨b, o, none⟩) cC code w _ _ _ [(i : Int) + 1] code[i].jmp (by simp) hl hin2).mono ?_
    rintro e w3 ⟨⟨v3, rfl⟩, hin4⟩
    have hin3 : InN w [.string c0, .string n0, .bool s0, .int .i64 p0, .slice AV nV cV, .string r0, .slice (some ⟨b, o, none⟩) code.length cC] w.heap.size (w.heap.size + 1) P w3 := by rw [HE.out]; rw [addL_in j1 j2] at hin4; exact hin4
    clear hin2 hin hin4
    obtain ⟨A3, m3, c3, hbx3, ho3⟩ := hin3.g
    have y3 := hbx3.cell 0 rfl
    have yl3 := hbx3.lt
    have hbw3 := hin3.bel
    go_wp2_with fail
    refine (sortInts_ownG _ P w.heap.size _ ho3 (by omega)).mono ?_
    rintro e w4 ⟨rfl, ho4, hg4⟩
    have hbx4 := hbx3.grown hg4 (ho3.ne_box hbx3 (by decide))
    have hbw4 := hbw3.grown hg4 hbw3.size (fun k hk => (ho3.lt k hk).1)
    have y4 := hbx4.cell 0 rfl
    have yl4 := hbx4.lt
    go_wp2_with fail
    refine (compactInts_ownG _ (sortI P) w.heap.size _ ho4 (by rw [sortI_len]; omega)).mono ?_
    rintro e w5 ⟨⟨v5, rfl, ho5⟩, hg5⟩
    have hbw5 := hbw4.grown hg5 hbw4.size (fun k hk => (ho4.lt k hk).1)
    go_wp2_with fail
    go_ret
    exact ⟨⟨_, rfl, ho5⟩, hbw5⟩
  · have HE : Hid (P = [(i : Int) + 1]) := by show _ = _; rw [HP.out, preL, if_neg (by omega), if_neg o3, if_neg o4]
    have e4 : (code[i].op == 11) = false := by simpa using o4
    clear hnx hjm o1 o2 o3 o4
    go_wp2_with fail
    refine (nextAdd_any c0 n0 s0 p0 AV nV cV r0 (some ⟨b, o, none⟩) cC code w _ _ _ [] ((i : Int) + 1) (by simp) hl hin).mono ?_
    rintro e w2 ⟨⟨v2, rfl⟩, hin2⟩
    have hin3 : InN w [.string c0, .string n0, .bool s0, .int .i64 p0, .slice AV nV cV, .string r0, .slice (some ⟨b, o, none⟩) code.length cC] w.heap.size (w.heap.size + 1) P w2 := by rw [HE.out]; rw [addL_in i3 i2] at hin2; exact hin2
    clear hin2 hin
    obtain ⟨A3, m3, c3, hbx3, ho3⟩ := hin3.g
    have y3 := hbx3.cell 0 rfl
    have yl3 := hbx3.lt
    have hbw3 := hin3.bel
    go_wp2_with fail
    refine (sortInts_ownG _ P w.heap.size _ ho3 (by omega)).mono ?_
    rintro e w4 ⟨rfl, ho4, hg4⟩
    have hbx4 := hbx3.grown hg4 (ho3.ne_box hbx3 (by decide))
    have hbw4 := hbw3.grown hg4 hbw3.size (fun k hk => (ho3.lt k hk).1)
    have y4 := hbx4.cell 0 rfl
    have yl4 := hbx4.lt
    go_wp2_with fail
    refine (compactInts_ownG _ (sortI P) w.heap.size _ ho4 (by rw [sortI_len]; omega)).mono ?_
    rintro e w5 ⟨⟨v5, rfl, ho5⟩, hg5⟩
    have hbw5 := hbw4.grown hg5 hbw4.size (fun k hk => (ho4.lt k hk).1)
    go_wp2_with fail
    go_ret
    exact ⟨⟨_, rfl, ho5⟩, hbw5⟩
end Go.Proofs.YticpeombillmeaaGreatDoor
namespace Go.Proofs.YticpeombillmeaaGreatDoor
open Go.RowKit
set_option linter.unusedVariables false

theorem uses_jmp : ∀ k, k < 17 → (((formL[k]?).getD []).contains 103 = true ↔ k = 11 ∨ k = 12) := by decide
theorem usesB_nat {k : Nat} (hk : k < 17) (c : Int) : usesB (k : Int) c = ((formL[k]?).getD []).contains c.toNat.toUInt8 := by
  unfold usesB knownB formOf
  rw [decide_eq_true (show (0 : Int) ≤ k by omega), decide_eq_true (show (k : Int) < 17 by omega), Int.toNat_natCast]
  rfl
theorem InsV.op {cs : List Cls} {f : Fun} {i : Nat} {x : Ins} (h : InsV cs f i x) : ∃ k : Nat, x.op = k ∧ k < 17 := by
  have h1 := h.kind
  unfold kindBad knownB at h1
  simp only [Bool.or_eq_false_iff, Bool.not_eq_false', Bool.and_eq_true, decide_eq_true_eq] at h1
  exact ⟨x.op.toNat, by omega, by omega⟩
theorem InsV.usesJ {cs : List Cls} {f : Fun} {i : Nat} {x : Ins} (h : InsV cs f i x) : usesB x.op 103 = true ↔ x.op = 11 ∨ x.op = 12 := by
  obtain ⟨k, hk, hk2⟩ := h.op
  rw [hk, usesB_nat hk2]
  have := uses_jmp k hk2
  constructor
  · intro e
    rcases this.1 e with e | e <;> omega
  · intro e
    exact this.2 (by omega)
theorem isCat_iff {code : List Ins} {z : Int} : isCat code z = true ↔ 0 ≤ z ∧ ∃ x, code[z.toNat]? = some x ∧ x.op = 15 := by
  unfold isCat
  rw [Bool.and_eq_true, decide_eq_true_eq]
  cases h : code[z.toNat]? with
  | none => simp
  | some x => simp
/-- Control: where it goes on, and what an instruction assigns. -/
structure InsC (n : Nat) (code : List Ins) (i : Nat) (x : Ins) : Prop where
  cl : ClosedAt code.length i x
  nxt : ∀ z ∈ nextL i x, 0 ≤ z ∧ z < code.length ∧ isCat code z = false
  dst : usesB x.op 100 = true → -1 ≤ x.dst ∧ x.dst < n
theorem insC_of {cs : List Cls} {f : Fun} {i : Nat} {x : Ins} (hi : i < f.code.length) (h : InsV cs f i x) : InsC f.vars.length f.code i x := by
  have hr := h.range
  have hc := h.ctl
  have hu := h.usesJ
  unfold rangeB at hr
  unfold ctlB at hc
  simp only [Bool.and_eq_true, Bool.or_eq_true, decide_eq_true_eq, Bool.not_eq_true', Bool.and_eq_false_iff, Bool.or_eq_false_iff, decide_eq_false_iff_not] at hr hc
  obtain ⟨⟨⟨⟨⟨r1, r2⟩, r3⟩, r4⟩, r5⟩, r6⟩ := hr
  obtain ⟨⟨c1, c2⟩, c3⟩ := hc
  have hj : x.op = 11 ∨ x.op = 12 → 0 ≤ x.jmp ∧ x.jmp < f.code.length ∧ isCat f.code x.jmp = false := fun e => by
    have hu1 := hu.2 e
    rw [hu1] at r5 c2
    refine ⟨?_, ?_, ?_⟩
    · rcases r5 with r5 | r5
      · cases r5
      · omega
    · rcases r5 with r5 | r5
      · cases r5
      · omega
    · rcases c2 with c2 | c2
      · cases c2
      · exact c2
  have hn : ¬ (x.op = 12 ∨ x.op = 13 ∨ x.op = 14) → i + 1 < f.code.length ∧ isCat f.code ((i : Int) + 1) = false := fun e => by
    rcases c1 with ((c1 | c1) | c1) | c1
    · exact absurd (Or.inl c1) e
    · exact absurd (Or.inr (Or.inl c1)) e
    · exact absurd (Or.inr (Or.inr c1)) e
    · exact ⟨by omega, c1.2⟩
  refine ⟨⟨fun e => ⟨(hj e).1, (hj e).2.1⟩, ?_, fun e => ?_⟩, fun z hz => ?_, fun e => ?_⟩
  · rcases r6 with r6 | r6
    · omega
    · obtain ⟨h0, y, hy, _⟩ := isCat_iff.1 r6
      have := (List.getElem?_eq_some_iff.1 hy).1
      omega
  · exact (hn (by unfold endI at e; omega)).1
  · unfold nextL at hz
    split at hz
    · cases hz
    rename_i g1
    split at hz
    · rename_i g2
      simp only [List.mem_singleton] at hz
      rw [hz]; exact hj (Or.inr g2)
    rename_i g2
    obtain ⟨n1, n2⟩ := hn (by omega)
    have hnx : 0 ≤ (i : Int) + 1 ∧ (i : Int) + 1 < f.code.length ∧ isCat f.code ((i : Int) + 1) = false := ⟨by omega, by omega, n2⟩
    split at hz
    · rename_i g3
      have hj := hj (Or.inl g3)
      split at hz
      · simp only [List.mem_singleton] at hz; rw [hz]; exact hj
      split at hz
      · simp only [List.mem_cons, List.not_mem_nil, or_false] at hz
        rcases hz with e | e <;> rw [e]
        · exact hj
        · exact hnx
      · simp only [List.mem_cons, List.not_mem_nil, or_false] at hz
        rcases hz with e | e <;> rw [e]
        · exact hnx
        · exact hj
    · simp only [List.mem_singleton] at hz; rw [hz]; exact hnx
  · rw [e] at r1
    cases hv : varB f.vars.length x.dst with
    | true =>
      unfold varB at hv
      simp only [Bool.and_eq_true, decide_eq_true_eq] at hv
      omega
    | false =>
      rw [hv] at r1
      simp at r1
      omega
end Go.Proofs.YticpeombillmeaaGreatDoor
