/-
  Chapter 14: the iterator over the arcs of a function.
-/
import Derived.RangeFuncNested
import Derived.RangeFuncBound
import Derived.RangeFuncCalls
import Derived.RangeFuncLeaves
import Derived.Shelf.Abstract
import Derived.Shelf.RegionOpen
import Derived.WalkKit
import Derived.OwnWalkIn
import Derived.TacticsInMore
import Derived.LoopNIn
import Derived.LoopIn
import Derived.Test.YthlpndgfphjlkaaCfgK
namespace Go.Proofs.Ythlpndgfphjlkaa
open Go.RowKit Go.Shelf
set_option linter.unusedVariables false
attribute [local go_sem] Oper.semAt_some

/-- What a round may turn: rows of edges and boxes of such rows. -/
def KpE (n₀ : Nat) (W W' : World) : Prop := Below n₀ W W' ∧ ∀ (b : Nat) cs t fz, W.heap[b]? = some (Obj.cells cs t fz) → t ≠ 33 → t ≠ 26 → W'.heap[b]? = some (Obj.cells cs t fz)
theorem KpE.trans {n₀ : Nat} {A B C : World} (h : KpE n₀ A B) (k : KpE n₀ B C) : KpE n₀ A C := ⟨h.1.trans k.1, fun b cs t fz hb h1 h2 => k.2 b cs t fz (h.2 b cs t fz hb h1 h2) h1 h2⟩
theorem KpE.of_below {n₀ : Nat} {A B : World} (hn : n₀ ≤ A.heap.size) (h : Below A.heap.size A B) : KpE n₀ A B := ⟨h.mono hn, fun b cs t fz hb _ _ => (h.block b (Array.getElem?_eq_some_iff.1 hb).1).trans hb⟩
theorem KpE.put {n₀ : Nat} {w : World} (hn : n₀ ≤ w.heap.size) (W : World) (l : Nat) (o o' : Obj) (hl : w.heap.size ≤ l) (h : W.heap[l]? = some o) (hc : o.isCells = false) (hw : o.isWalk = false) : KpE n₀ W (W.putObj l o') := by
  refine ⟨belowK_b hn W l o o' hl h hc hw, fun b cs t fz hb _ _ => ?_⟩
  have hne : b ≠ l := fun e => by subst e; rw [h] at hb; injection hb with hb; subst hb; cases hc
  exact ((grownBy_putObj' W l o').block b (Array.getElem?_eq_some_iff.1 hb).1 (fun e => hne (by injection e))).trans hb
theorem Box.keptK {n₀ : Nat} {W W' : World} {b : Nat} {cs : List Value} {t : TypeId} (h : Box W b cs t) (hk : KpE n₀ W W') (h1 : t ≠ 33) (h2 : t ≠ 26) : Box W' b cs t := hk.2 _ _ _ _ h h1 h2
theorem Own.keptK {n₀ : Nat} {α : Type} {cells : α → List Value} {size base : Nat} {e : TypeId} {W W' : World} {v : Value} {l : List α} (h : Own cells size base e W v l) (hk : KpE n₀ W W') (h1 : e ≠ 33) (h2 : e ≠ 26) : Own cells size base e W' v l := by
  refine ⟨h.1, ?_⟩
  rcases h.2 with h1' | ⟨g, cap, cur, hv, hb, hg, hr⟩
  · exact Or.inl h1'
  · exact Or.inr ⟨g, cap, cur, hv, hb, hk.2 _ _ _ _ hg h1 h2, hr⟩

abbrev Arc := Int × Int × Bool
def encArc (x : Arc) : Array Value := #[.agg #[.int .i64 x.1, .int .i64 x.2.1, .bool x.2.2]]
/-- The arcs out of an instruction, in the order in which they come. -/
def arcsN (i : Nat) (x : Ins) : List Arc := (nextL i x).map fun t => ((i : Int), t, true)
def arcsR (n i : Nat) (x : Ins) : List Arc := if x.op = 13 then [((i : Int), (n : Int), true)] else []
def arcsH (n i : Nat) (x : Ins) : List Arc := if raisesB x = true then [((i : Int), hndI n x, false)] else []
def arcsTo (code : List Ins) : Nat → List Arc
  | 0 => []
  | k + 1 => arcsTo code k ++ (match code[k]? with | some x => arcsN k x ++ arcsR code.length k x ++ arcsH code.length k x | none => [])
theorem arcsTo_succ {code : List Ins} {k : Nat} (h : k < code.length) : arcsTo code (k + 1) = arcsTo code k ++ (arcsN k code[k] ++ arcsR code.length k code[k] ++ arcsH code.length k code[k]) := by
  rw [arcsTo, List.getElem?_eq_getElem h]
theorem arcsTo_len (code : List Ins) : ∀ k, (arcsTo code k).length ≤ 4 * k
  | 0 => by simp [arcsTo]
  | k + 1 => by
    rw [arcsTo, List.length_append]
    have := arcsTo_len code k
    split
    · rename_i x _
      have h1 := nextL_len k x
      have h2 : (arcsR code.length k x).length ≤ 1 := by unfold arcsR; split <;> simp
      have h3 : (arcsH code.length k x).length ≤ 1 := by unfold arcsH; split <;> simp
      rw [List.length_append, List.length_append, arcsN, List.length_map]
      omega
    · simp; omega

theorem abides_below {β : Type} {B : Nat} {J : β → World → Prop} (h : AbidesFrom B J) {s : β} {W W' : World} (hs : J s W) (hb : Below W.heap.size W W') : J s W' :=
  h s W W' none hs ⟨hb.os, hb.tape, hb.output, hb.size, fun k hk _ => hb.block k hk⟩ (fun r e => by cases e)

set_option maxRecDepth 100000 in
set_option maxHeartbeats 4000000 in
theorem arcs1_in (n l Bf n₀ : Nat) (c0 n0 : ByteArray) (s0 : Bool) (p0 : Int) (AV : Option Addr) (nV cV : Nat) (r0 : ByteArray) (AC : Option Addr) (cC : Nat) (code : List Ins) (hn : 1 ≤ n) (hl : code.length ≤ 1024) (hc : Hid (Closed code)) (J Jx : List Arc → World → Prop) (W : World) (hJa : AbidesFrom W.heap.size J)
    (hY : ∀ pre x W1, J pre W1 → pre.length < 8192 → YieldAt Fence.wide (n - 1) Try.prog l (encArc x) W1 fun e W' =>
      (e = .returned (.bool true) ∧ J (pre ++ [x]) W' ∧ KpE n₀ W1 W') ∨ (e = .returned (.bool false) ∧ Jx (pre ++ [x]) W'))
    (hn0 : n₀ ≤ W.heap.size) (hBf : Box W Bf [.string c0, .string n0, .bool s0, .int .i64 p0, .slice AV nV cV, .string r0, .slice AC code.length cC] 25) (w : World) (hw : w.heap.size = n₀) (hwW : Below n₀ w W) (hs : Sl Lay.ins w AC code) (h0 : J [] W) :
    CallsIn Fence.wide n Try.prog 27 #[.func (.yield l) #[] #[], .pointer (some ⟨Bf, 0, none⟩)] W fun e W' => (∃ v, e = .returned v) ∧
      ((∃ ys, ys = arcsTo code code.length ∧ J ys W') ∨ (∃ pre, True ∧ Jx pre W')) := by
  have g6 := hBf.cell 6 rfl
  have gl := hBf.lt
  refine callsIn_of_wp Try.func27 rfl trivial ?_ rfl
  simp only [Try.ntmps27, List.size_toArray, List.length_cons, List.length_nil, Nat.reduceAdd, Nat.reduceSub, Array.replicate_succ, Array.replicate_zero, List.push_toArray, List.append_toArray, List.nil_append, List.cons_append]
  gi_wp2
  gi_loopw [10] (fun i wr => ∃ k : Nat, k ≤ code.length ∧ i = .int .i64 k ∧ J (arcsTo code k) wr ∧ Box wr Bf [.string c0, .string n0, .bool s0, .int .i64 p0, .slice AV nV cV, .string r0, .slice AC code.length cC] 25 ∧ Below n₀ w wr ∧ n₀ ≤ wr.heap.size) (fun i _ => code.length - (intOf i).toNat)
  case atStart => exact ⟨0, Nat.zero_le _, rfl, h0, hBf, hwW, hn0⟩
  case round =>
    clear g6 gl
    obtain ⟨k, hk, rfl, hJ, hB, hbw, hsz⟩ := hrel
    have f0 := hB.cell 0 rfl
    have f1 := hB.cell 1 rfl
    have f2 := hB.cell 2 rfl
    have f3 := hB.cell 3 rfl
    have f4 := hB.cell 4 rfl
    have f5 := hB.cell 5 rfl
    have f6 := hB.cell 6 rfl
    have fl := hB.lt
    by_cases hlt : k < code.length
    · have HC : Hid (ClosedAt code.length k code[k]) := hc.out.at hlt
      have HS : Hid (arcsTo code (k + 1) = arcsTo code k ++ (arcsN k code[k] ++ arcsR code.length k code[k] ++ arcsH code.length k code[k])) := arcsTo_succ hlt
      obtain ⟨b, o, A7, c7, eA, hb, d0, d1, d2, d3, d4, d5, d6, d7, d8, d9, hc7, hs7⟩ := (hs.mono (hw ▸ hbw)).ins_at hlt
      subst eA
      have hIns : Box (wr.alloc (.cells #[.int .i64 code[k].op, .int .i64 code[k].dst, .int .i64 code[k].a, .int .i64 code[k].b, .int .i64 code[k].n, .string code[k].cls, .string code[k].name, .slice A7 code[k].args.length c7, .int .i64 code[k].jmp, .int .i64 code[k].hnd] 52)) wr.heap.size [.int .i64 code[k].op, .int .i64 code[k].dst, .int .i64 code[k].a, .int .i64 code[k].b, .int .i64 code[k].n, .string code[k].cls, .string code[k].name, .slice A7 code[k].args.length c7, .int .i64 code[k].jmp, .int .i64 code[k].hnd] 52 := Box.new _ _ _
      have hbI := bw_alloc (o := .cells #[.int .i64 code[k].op, .int .i64 code[k].dst, .int .i64 code[k].a, .int .i64 code[k].b, .int .i64 code[k].n, .string code[k].cls, .string code[k].name, .slice A7 code[k].args.length c7, .int .i64 code[k].jmp, .int .i64 code[k].hnd] 52) (Below.refl wr.heap.size wr)
      have hsI : Sl Lay.ins (wr.alloc (.cells #[.int .i64 code[k].op, .int .i64 code[k].dst, .int .i64 code[k].a, .int .i64 code[k].b, .int .i64 code[k].n, .string code[k].cls, .string code[k].name, .slice A7 code[k].args.length c7, .int .i64 code[k].jmp, .int .i64 code[k].hnd] 52)) (some ⟨b, o, none⟩) code := (hs.mono (hw ▸ hbw)).mono hbI
      gi_wp2
      refine ⟨trivial, (callsIn_wide.2 (next_any c0 n0 s0 p0 AV nV cV r0 (some ⟨b, o, none⟩) cC code k _ hl hlt hsI HC)).mono ?_⟩
      rintro e w2 ⟨⟨v2, rfl, hv2⟩, hb2⟩
      have hbw2 := below_step hbI hb2
      have hJ2 := abides_below hJa hJ hbw2
      have hB2 := hB.mono hbw2
      have hI2 := hIns.mono hb2
      have hw2 := hbw.trans (hbw2.mono hsz)
      have hz2 : n₀ ≤ w2.heap.size := Nat.le_trans hsz hbw2.size
      clear hJ hB hIns hbI hsI hb2 hbw2 f0 f1 f2 f3 f4 f5 f6 fl hb d0 d1 d2 d3 d4 d5 d6 d7 d8 d9 hs7 hbw
      obtain ⟨wo, hwo⟩ : ∃ wo : Nat, wr.heap.size = wo := ⟨_, rfl⟩
      rw [hwo] at hI2 ⊢
      have hnl := nextL_len k code[k]
      have hal := arcsTo_len code k
      have HNN : Hid (arcsN k code[k] = (nextL k code[k]).map fun t => ((k : Int), t, true)) := rfl
      obtain ⟨L, HL⟩ : ∃ L, Hid (L = nextL k code[k]) := ⟨_, Lib.hid rfl⟩
      rw [← HL.out] at hv2 hnl
      obtain ⟨A2, c2, rfl, hc2, hs2⟩ := hv2.sl (L := Lay.int) rfl (fun x => rfl)
      clear hs2 hwo
      obtain ⟨bN, HbN⟩ : ∃ bN : Nat, Own cellsInt 1 bN 3 w2 (.slice A2 L.length c2) L := ⟨_, hv2⟩
      clear hv2
      gi_wp2
      gi_loopw [19] (fun i wr => ∃ j : Nat, j ≤ L.length ∧ i = .int .i64 j ∧ J (arcsTo code k ++ (L.take j).map fun t => ((k : Int), t, true)) wr ∧ Box wr Bf [.string c0, .string n0, .bool s0, .int .i64 p0, .slice AV nV cV, .string r0, .slice (some ⟨b, o, none⟩) code.length cC] 25 ∧ Below n₀ w wr ∧ n₀ ≤ wr.heap.size ∧ Own cellsInt 1 bN 3 wr (.slice A2 L.length c2) L ∧
        Box wr wo [.int .i64 code[k].op, .int .i64 code[k].dst, .int .i64 code[k].a, .int .i64 code[k].b, .int .i64 code[k].n, .string code[k].cls, .string code[k].name, .slice A7 code[k].args.length c7, .int .i64 code[k].jmp, .int .i64 code[k].hnd] 52) (fun i _ => L.length - (intOf i).toNat)
      case atStart => exact ⟨0, Nat.zero_le _, rfl, by simpa using hJ2, hB2, hw2, hz2, HbN, hI2⟩
      case round =>
        clear hJ2 hB2 hw2 hz2 HbN hI2
        obtain ⟨j, hj, rfl, hJ3, hB3, hw3, hz3, hv3, hI3⟩ := hrel
        by_cases hjt : j < L.length
        · obtain ⟨A2', c2', hv, -, hs3⟩ := hv3.sl (L := Lay.int) rfl (fun x => rfl)
          injection hv with hA hn' hcc
          subst hA hcc
          obtain ⟨b3, o3, rfl, hb3, d3⟩ := hs3.int_at hjt
          have HT : Hid (L.take (j + 1) = L.take j ++ [L[j]]) := List.take_succ_eq_append_getElem hjt
          obtain ⟨fn, tmps, assign, body, hy, hR⟩ := hY _ ((k : Int), L[j], true) wr hJ3 (by rw [List.length_append, List.length_map, List.length_take]; omega)
          unfold encArc at hy
          gi_wp2
          refine hR.mono ?_
          rintro e W4 (⟨rfl, hJ4, hk4⟩ | ⟨rfl, hJx4⟩)
          · gi_wp2
            go_roundw
            case rel => exact ⟨j + 1, by omega, by go_num, by rw [HT.out, List.map_append, ← List.append_assoc]; exact hJ4, hB3.keptK hk4 (by decide) (by decide), hw3.trans hk4.1, Nat.le_trans hz3 hk4.1.size, hv3.keptK hk4 (by decide) (by decide), hI3.keptK hk4 (by decide) (by decide)⟩
            case measure => simp [intOf]; omega
          · gi_wp2
            refine bodyPost_ret (results_none rfl _ _ _) rfl ?_
            exact ⟨⟨_, rfl⟩, .inr ⟨_, trivial, hJx4⟩⟩
        · obtain rfl : j = L.length := by omega
          rw [List.take_length] at hJ3
          have hJ4 : J (arcsTo code k ++ arcsN k code[k]) wr := by rw [HNN.out, ← HL.out]; exact hJ3
          have hal4 : (arcsTo code k ++ arcsN k code[k]).length ≤ 4 * k + 2 := by rw [List.length_append, HNN.out, ← HL.out, List.length_map]; omega
          clear hJ3 hv3
          have f0 := hB3.cell 0 rfl
          have f1 := hB3.cell 1 rfl
          have f2 := hB3.cell 2 rfl
          have f3 := hB3.cell 3 rfl
          have f4 := hB3.cell 4 rfl
          have f5 := hB3.cell 5 rfl
          have f6 := hB3.cell 6 rfl
          have fl := hB3.lt
          have i0 := hI3.cell 0 rfl
          have i1 := hI3.cell 1 rfl
          have i2 := hI3.cell 2 rfl
          have i3 := hI3.cell 3 rfl
          have i4 := hI3.cell 4 rfl
          have i5 := hI3.cell 5 rfl
          have i6 := hI3.cell 6 rfl
          have i7 := hI3.cell 7 rfl
          have i8 := hI3.cell 8 rfl
          have i9 := hI3.cell 9 rfl
          have il := hI3.lt
          by_cases o1 : code[k].op = 13
          · have HR1 : Hid (arcsR code.length k code[k] = [((k : Int), (code.length : Int), true)]) := if_pos o1
            have HH1 : Hid (raisesB code[k] = false) := by show _ = _; unfold raisesB; rw [o1]; decide
            have HH2 : Hid (arcsH code.length k code[k] = []) := by show _ = _; unfold arcsH; rw [HH1.out]; rfl
            rw [o1] at i0
            clear o1
            obtain ⟨fn, tmps, assign, body, hy, hR⟩ := hY _ ((k : Int), (code.length : Int), true) wr hJ4 (by omega)
            unfold encArc at hy
            gi_wp2
            refine hR.mono ?_
            rintro e W5 (⟨rfl, hJ5, hk5⟩ | ⟨rfl, hJx5⟩)
            · have hB5 := hB3.keptK hk5 (by decide) (by decide)
              have hI5 := hI3.keptK hk5 (by decide) (by decide)
              clear hB3 hI3 f0 f1 f2 f3 f4 f5 f6 fl i0 i1 i2 i3 i4 i5 i6 i7 i8 i9 il
              have f0 := hB5.cell 0 rfl
              have f1 := hB5.cell 1 rfl
              have f2 := hB5.cell 2 rfl
              have f3 := hB5.cell 3 rfl
              have f4 := hB5.cell 4 rfl
              have f5 := hB5.cell 5 rfl
              have f6 := hB5.cell 6 rfl
              have fl := hB5.lt
              have i0 := hI5.cell 0 rfl
              have i1 := hI5.cell 1 rfl
              have i2 := hI5.cell 2 rfl
              have i3 := hI5.cell 3 rfl
              have i4 := hI5.cell 4 rfl
              have i5 := hI5.cell 5 rfl
              have i6 := hI5.cell 6 rfl
              have i7 := hI5.cell 7 rfl
              have i8 := hI5.cell 8 rfl
              have i9 := hI5.cell 9 rfl
              have il := hI5.lt
              gi_wp2
              refine ⟨trivial, (callsIn_wide.2 (raises_any code[k] A7 c7 W5)).mono ?_⟩
              rw [HH1.out]
              rintro e W6 ⟨rfl, hb6⟩
              gi_wp2
              refine ⟨trivial, ?_⟩
              gi_wp2
              refine ⟨fun _ h => (by cases h), ?_⟩
              gi_wp2
              go_roundw
              case rel => exact ⟨k + 1, by omega, by go_num, by rw [HS.out, HR1.out, HH2.out, List.append_nil, ← List.append_assoc]; exact abides_below hJa hJ5 hb6, hB5.mono hb6, (hw3.trans hk5.1).trans (hb6.mono (Nat.le_trans hz3 hk5.1.size)), Nat.le_trans (Nat.le_trans hz3 hk5.1.size) hb6.size⟩
              case measure => simp [intOf]; omega
            · gi_wp2
              refine bodyPost_ret (results_none rfl _ _ _) rfl ?_
              exact ⟨⟨_, rfl⟩, .inr ⟨_, trivial, hJx5⟩⟩
          · have HR1 : Hid (arcsR code.length k code[k] = []) := if_neg o1
            have e13 : (code[k].op == 13) = false := by simpa using o1
            clear o1
            cases hr : raisesB code[k] with
            | false =>
              have HH2 : Hid (arcsH code.length k code[k] = []) := by show _ = _; unfold arcsH; rw [hr]; rfl
              replace hr := Lib.hid hr
              gi_wp2
              refine ⟨fun _ h => (by cases h), ?_⟩
              gi_wp2
              refine ⟨trivial, (callsIn_wide.2 (raises_any code[k] A7 c7 _)).mono ?_⟩
              rw [hr.out]
              rintro e W6 ⟨rfl, hb6⟩
              gi_wp2
              refine ⟨trivial, ?_⟩
              gi_wp2
              refine ⟨fun _ h => (by cases h), ?_⟩
              gi_wp2
              go_roundw
              case rel => exact ⟨k + 1, by omega, by go_num, by rw [HS.out, HR1.out, HH2.out, List.append_nil, List.append_nil]; exact abides_below hJa hJ4 hb6, hB3.mono hb6, hw3.trans (hb6.mono hz3), Nat.le_trans hz3 hb6.size⟩
              case measure => simp [intOf]; omega
            | true =>
              have HH2 : Hid (arcsH code.length k code[k] = [((k : Int), hndI code.length code[k], false)]) := by show _ = _; unfold arcsH; rw [hr]; rfl
              replace hr := Lib.hid hr
              gi_wp2
              refine ⟨fun _ h => (by cases h), ?_⟩
              gi_wp2
              refine ⟨trivial, (callsIn_wide.2 (raises_any code[k] A7 c7 _)).mono ?_⟩
              rw [hr.out]
              rintro e W6 ⟨rfl, hb6⟩
              have hB5 := hB3.mono hb6
              have hI5 := hI3.mono hb6
              have hw5 := hw3.trans (hb6.mono hz3)
              have hz5 := Nat.le_trans hz3 hb6.size
              have hJ5 := abides_below hJa hJ4 hb6
              clear hB3 hI3 f0 f1 f2 f3 f4 f5 f6 fl i0 i1 i2 i3 i4 i5 i6 i7 i8 i9 il hw3 hz3 hJ4
              have f0 := hB5.cell 0 rfl
              have f1 := hB5.cell 1 rfl
              have f2 := hB5.cell 2 rfl
              have f3 := hB5.cell 3 rfl
              have f4 := hB5.cell 4 rfl
              have f5 := hB5.cell 5 rfl
              have f6 := hB5.cell 6 rfl
              have fl := hB5.lt
              have i0 := hI5.cell 0 rfl
              have i1 := hI5.cell 1 rfl
              have i2 := hI5.cell 2 rfl
              have i3 := hI5.cell 3 rfl
              have i4 := hI5.cell 4 rfl
              have i5 := hI5.cell 5 rfl
              have i6 := hI5.cell 6 rfl
              have i7 := hI5.cell 7 rfl
              have i8 := hI5.cell 8 rfl
              have i9 := hI5.cell 9 rfl
              have il := hI5.lt
              gi_wp2
              refine ⟨trivial, (callsIn_wide.2 (handler_any c0 n0 s0 p0 AV nV cV r0 (some ⟨b, o, none⟩) cC code k _ hl hlt (hs.mono (hw ▸ hw5)))).mono ?_⟩
              rintro e W7 ⟨rfl, hb7⟩
              have hB7 := hB5.mono hb7
              have hw7 := hw5.trans (hb7.mono hz5)
              have hz7 := Nat.le_trans hz5 hb7.size
              have hJ7 := abides_below hJa hJ5 hb7
              obtain ⟨fn, tmps, assign, body, hy, hR⟩ := hY _ ((k : Int), hndI code.length code[k], false) W7 hJ7 (by omega)
              unfold encArc at hy
              gi_wp2
              refine hR.mono ?_
              rintro e W8 (⟨rfl, hJ8, hk8⟩ | ⟨rfl, hJx8⟩)
              · gi_wp2
                go_roundw
                case rel => exact ⟨k + 1, by omega, by go_num, by rw [HS.out, HR1.out, HH2.out, List.append_nil, ← List.append_assoc]; exact hJ8, hB7.keptK hk8 (by decide) (by decide), hw7.trans hk8.1, Nat.le_trans hz7 hk8.1.size⟩
                case measure => simp [intOf]; omega
              · gi_wp2
                refine bodyPost_ret (results_none rfl _ _ _) rfl ?_
                exact ⟨⟨_, rfl⟩, .inr ⟨_, trivial, hJx8⟩⟩
    · gi_wp2
      go_end0
      exact ⟨⟨_, rfl⟩, .inl ⟨_, by rw [show k = code.length by omega], hJ⟩⟩
end Go.Proofs.Ythlpndgfphjlkaa
