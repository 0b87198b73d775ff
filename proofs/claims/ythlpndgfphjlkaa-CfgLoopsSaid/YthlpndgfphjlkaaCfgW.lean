/-
  Chapter 14: the reference's without: which instructions are reached by paths that avoid one.
-/
import Derived.Test.YthlpndgfphjlkaaCfgO
import Derived.Test.YthlpndgfphjlkaaMgGra
import Derived.Test.YthlpndgfphjlkaaMgPlain
namespace Go.Proofs.Ythlpndgfphjlkaa
open Go.RowKit
set_option linter.unusedVariables false

theorem mem_edgesTo {code : List Ins} : ∀ (m : Nat), m ≤ code.length → ∀ p : Int × Int, p ∈ edgesTo code m ↔ ∃ (k : Nat) (hk : k < code.length), k < m ∧ ∃ t ∈ allL code.length k code[k], p = ((k : Int), t)
  | 0, _, p => by simp [edgesTo]
  | m + 1, hm, p => by
    have hlt : m < code.length := by omega
    rw [edgesTo_succ hlt, List.mem_append, mem_edgesTo m (by omega) p, arcsI, List.mem_map]
    constructor
    · rintro (⟨k, hk, h1, t, ht, e⟩ | ⟨t, ht, e⟩)
      · exact ⟨k, hk, by omega, t, ht, e⟩
      · exact ⟨m, hlt, by omega, t, ht, e.symm⟩
    · rintro ⟨k, hk, h1, t, ht, e⟩
      by_cases ek : k = m
      · subst ek; exact Or.inr ⟨t, ht, e.symm⟩
      · exact Or.inl ⟨k, hk, by omega, t, ht, e⟩
theorem mem_edges_at {code : List Ins} {i : Nat} (hi : i < code.length) (y : Int) : ((i : Int), y) ∈ edgesTo code code.length ↔ y ∈ allL code.length i code[i] := by
  rw [mem_edgesTo _ (Nat.le_refl _)]
  constructor
  · rintro ⟨k, hk, _, t, ht, e⟩
    injection e with e1 e2
    obtain rfl : i = k := by omega
    subst e2
    exact ht
  · intro h
    exact ⟨i, hi, hi, y, h, rfl⟩
/-- How a node that is avoided is told: -1 for none. -/
def dV : Option Nat → Int
  | none => -1
  | some h => (h : Int)
theorem dV_eq (d : Option Nat) (y : Nat) : dV d = (y : Int) ↔ d = some y := by
  cases d with
  | none => simp [dV]
  | some h => simp only [dV, Option.some.injEq]; omega
theorem edgesTo_in {code : List Ins} (hc : Closed code) : ∀ p ∈ edgesTo code code.length, inG ((code.length : Int) + 2) p := fun p hp => by
  obtain ⟨x, hx, rfl⟩ := List.mem_map.1 ((mem_edges hc _ (Nat.le_refl _) p).1 hp)
  exact arcsTo_in hc _ (Nat.le_refl _) x hx
def lenV : Value → Nat
  | .slice _ n _ => n
  | _ => 0
/-- What the memory of the search holds. -/
structure WM (base fb gs n : Nat) (fv : List Value) (seen : List Bool) (v : Value) (work : List Nat) (w wr : World) : Prop where
  bf : Box wr fb fv 25
  os : Own (fun x : Bool => [Value.bool x]) 1 base 4 wr (.slice (some ⟨gs, 0, none⟩) (n + 2) (n + 2)) seen
  qw : Que base 3 wr v (work.map fun (x : Nat) => (x : Int))
  bel : Below base w wr
  sz : base ≤ wr.heap.size
section
variable {base fb gs n : Nat} {fv : List Value} {seen : List Bool} {v : Value} {work : List Nat} {w wr W : World}
theorem WM.mono (h : WM base fb gs n fv seen v work w wr) (hb : Below wr.heap.size wr W) : WM base fb gs n fv seen v work w W :=
  ⟨h.bf.mono hb, h.os.mono hb, h.qw.mono hb, h.bel.trans (hb.mono h.sz), Nat.le_trans h.sz hb.size⟩
/-- How many nodes are yet unseen, read off the memory. -/
def isF : Option Value → Bool
  | some (.bool false) => true
  | _ => false
def cntF (w : World) (g n : Nat) : Nat := (((List.range n).map fun i => w.cell? ⟨g, i, none⟩)).countP isF
theorem WM.cnt (h : WM base fb gs n fv seen v work w wr) (hl : seen.length = n + 2) : cntF wr gs (n + 2) = falses seen := by
  unfold cntF falses
  have e : ((List.range (n + 2)).map fun i => wr.cell? ⟨gs, i, none⟩) = seen.map fun b => some (.bool b) := by
    apply List.ext_getElem
    · simp [hl]
    · intro i h1 h2
      simp at h1 h2
      rw [List.getElem_map, List.getElem_map, List.getElem_range]
      exact h.os.at1 hl h2
  rw [e, List.countP_map]
  congr 1
  funext b
  cases b <;> rfl
theorem WM.mark (h : WM base fb gs n fv seen v work w wr) (hl : seen.length = n + 2) (hfb : base ≤ fb) (hne : gs ≠ fb) (x : Nat) : WM base fb gs n fv (seen.set x true) v work w (wr.setCell ⟨gs, x, none⟩ (.bool true)) ∧ wr.grownBy (wr.setCell ⟨gs, x, none⟩ (.bool true)) (some gs) := by
  have hg := grown_set wr gs x (.bool true)
  refine ⟨⟨h.bf.grown hg (fun e => hne (by injection e with e; exact e.symm)), ?_, h.qw.kept hg (h.qw.ne_own h.os (by decide)), h.bel.setCell (h.os.ge1).1 _, Nat.le_trans h.sz hg.size⟩, hg⟩
  exact h.os.set1 hl x true
theorem WM.push (h : WM base fb gs n fv seen v work w wr) (hw : work.length ≤ 100000) (x : Nat) (g0 : Nat) (hx : wr.cell? ⟨g0, 0, none⟩ = some (.int .i64 (x : Nat))) :
    ∃ v' w' row, (Builtin.append_ #[38, 38] 38 #[v, .slice (some ⟨g0, 0, none⟩) 1 1]).run Try.prog wr = .ok v' w' ∧ WM base fb gs n fv seen v' (work ++ [x]) w w' ∧ wr.grownBy w' row ∧ (∀ b, row = some b → v.ownBlock = some b) ∧ (v'.ownBlock = v.ownBlock ∨ ∃ b, v'.ownBlock = some b ∧ wr.heap.size ≤ b) := by
  obtain ⟨v', w', row, hr, hq, hg, hrow, hat⟩ := h.qw.push (P := Try.prog) (t := 38) intTy 38 (x : Int) g0 1 hx (by rw [List.length_map]; unfold maxLen; omega) (by rw [List.length_map]; omega) h.sz
  refine ⟨v', w', row, hr, ⟨?_, ?_, ?_, ?_, Nat.le_trans h.sz hg.size⟩, hg, hrow, hat⟩
  · exact h.bf.grown hg (fun e => h.qw.ne_box h.bf (by decide) (hrow _ e.symm))
  · exact h.os.kept hg (fun b e => fun e2 => h.qw.ne_own h.os (by decide) b e2 (hrow b e))
  · rw [List.map_append]; exact hq
  · exact h.bel.grown hg h.sz (fun k e => (h.qw.block k (hrow k e)).1)
end
/-- What is handed back: one truth value an instruction. -/
def RetW (code : List Ins) (d : Option Nat) (w' : World) (e : Ending) : Prop := ∃ A c S, e = .returned (.slice A code.length c) ∧ S.length = code.length ∧ code.length ≤ c ∧ Sl Lay.bool w' A S ∧ ∀ i, i < code.length → (S[i]? = some true ↔ RA (edgesTo code code.length) 0 d i)
set_option maxRecDepth 100000 in
set_option maxHeartbeats 4000000 in
theorem without_any (d : Option Nat) (c0 n0 : ByteArray) (s0 : Bool) (p0 : Int) (AV : Option Addr) (nV cV : Nat) (r0 : ByteArray) (AC : Option Addr) (cC : Nat) (code : List Ins) (w : World) (hl : code.length ≤ 1024) (hd : ∀ h, d = some h → h ≤ 100000) (hs : Sl Lay.ins w AC code) (hc : Hid (Closed code)) :
    Calls Try.prog 23 #[.agg #[.string c0, .string n0, .bool s0, .int .i64 p0, .slice AV nV cV, .string r0, .slice AC code.length cC], .int .i64 (dV d)] w fun e w' => RetW code d w' e ∧ Below w.heap.size w w' := by
  have hb0 : Below w.heap.size w (w.alloc (.cells #[.string c0, .string n0, .bool s0, .int .i64 p0, .slice AV nV cV, .string r0, .slice AC code.length cC] 25)) := (by repeat (first | assumption | exact Below.refl _ _ | apply bw_alloc | apply bw_drew | apply bw_drewN | apply bw_later | apply bw_step))
  have hmod : ((code.length : Int) + 2 + 9223372036854775808) % 18446744073709551616 - 9223372036854775808 = (code.length : Int) + 2 := by omega
  have hmk : ∀ W, (Instr.makeSlice 36 (.int .i64 ((code.length : Int) + 2)) (.int .i64 ((code.length : Int) + 2))).run Try.prog W = .ok (.slice (some ⟨W.heap.size, 0, none⟩) (code.length + 2) (code.length + 2)) (W.alloc (.cells (madeCells #[.bool false] (code.length + 2)) 4)) := fun W => by
    have := boolTy.make .i64 .i64 (code.length + 2) (by omega) (by omega) W
    rw [Nat.mul_one] at this
    exact this
  go_enter Try.func23, Try.ntmps23
  go_upto_region 3 with fail
  generalize hW : World.alloc _ _ = W0
  have hos : Own (fun x : Bool => [Value.bool x]) 1 w.heap.size 4 W0 (.slice (some ⟨w.heap.size + 1, 0, none⟩) (code.length + 2) (code.length + 2)) (List.replicate (code.length + 2) false) := by
    rw [← hW]
    have := Own.made (c := Value.bool) (base := w.heap.size) (e := 4) (.bool false) (w.alloc (.cells #[.string c0, .string n0, .bool s0, .int .i64 p0, .slice AV nV cV, .string r0, .slice AC code.length cC] 25)) (code.length + 2) (List.replicate (code.length + 2) false) (by simp) (by simp) (by unfold maxLen; omega) (by simp)
    simpa using this
  have hWM : WM w.heap.size w.heap.size (w.heap.size + 1) code.length [.string c0, .string n0, .bool s0, .int .i64 p0, .slice AV nV cV, .string r0, .slice AC code.length cC] (List.replicate (code.length + 2) false) (.slice none 0 0) [] w W0 := by
    refine ⟨?_, hos, Que.nil, ?_, ?_⟩
    · rw [← hW]; exact (Box.new _ _ _).alloc _
    · rw [← hW]; exact bw_alloc hb0
    · rw [← hW]; simp; omega
  clear hW hos hmk
  have f6 := hWM.bf.cell 6 rfl
  have fl := hWM.bf.lt
  have hnI : (0 : Int) ≤ (code.length : Int) := by omega
  obtain ⟨E, HE⟩ : ∃ E, Hid (E = edgesTo code code.length) := ⟨_, Lib.hid rfl⟩
  have HIN : Hid (∀ p ∈ E, inG ((code.length : Int) + 2) p) := by rw [HE.out]; exact edgesTo_in hc.out
  go_cut [22] (fun v22 wx => v22 = .bool (decide (0 < code.length) && (dV d != 0)) ∧ wx = W0)
  case first =>
    by_cases hn : 0 < code.length
    · have z1 : decide ((0 : Int) < (code.length : Int)) = true := decide_eq_true (by omega)
      have z2 : decide (0 < code.length) = true := by simpa using hn
      go_wp2_with fail
      go_meet
      case rel => exact ⟨by rw [z2]; rfl, rfl⟩
    · have z1 : decide ((0 : Int) < (code.length : Int)) = false := decide_eq_false (by omega)
      have z2 : decide (0 < code.length) = false := by simpa using hn
      go_wp2_with fail
      go_meet
      case rel => exact ⟨by rw [z2]; rfl, rfl⟩
  case rest =>
  obtain ⟨rfl, rfl⟩ := hcut
  generalize hb : (decide (0 < code.length) && (dV d != 0)) = b
  have HB := Lib.hid hb
  clear hb
  go_upto_if 22 with fail
  go_cut [6] (fun v6 wx => ∃ seen work, WM w.heap.size w.heap.size (w.heap.size + 1) code.length [.string c0, .string n0, .bool s0, .int .i64 p0, .slice AV nV cV, .string r0, .slice AC code.length cC] seen v6 work w wx ∧ Hid ((WI E code.length d seen work ∨ (code.length = 0 ∧ work = [])) ∧ seen.length = code.length + 2 ∧ 2 * falses seen + work.length ≤ 2 * code.length + 4))
  case first =>
    cases b with
    | true =>
      have HB2 : Hid (0 < code.length ∧ d ≠ some 0) := by
        have := HB.out
        simp only [Bool.and_eq_true, decide_eq_true_eq, bne_iff_ne, ne_eq] at this
        exact ⟨this.1, fun e => this.2 ((dV_eq d 0).2 e)⟩
      clear HB
      obtain ⟨hM1, hg1⟩ := hWM.mark (by simp) (Nat.le_refl _) (by omega) 0
      have c0 := hWM.os.at1 (by simp) (i := 0) (by simp)
      have cf := hWM.os.free1 (by simp) 0
      have cl := hWM.os.ge1.2
      go_upto_region 5 with fail
      generalize World.setCell _ _ _ = W1 at *
      obtain ⟨v6, w', row, hrun, hM2, hg2, -, -⟩ := (hM1.mono (bw_alloc (o := .cells #[.int .i64 0] 3) (Below.refl _ _))).push (by simp) 0 W1.heap.size (by simp)
      go_wp2_with (at_builtin; refine wpList_appendRun rfl (.tmp 25) (.tmp 26) 38 rfl rfl rfl hrun ?_)
      go_meet
      case rel => exact ⟨_, _, hM2, .inl (WI.one HB2.out.2), by simp, by
        have h0 : (List.replicate (code.length + 2) false)[0]? = some false := by simp
        have h1 := falses_set h0
        have h2 : falses (List.replicate (code.length + 2) false) = code.length + 2 := by unfold falses; rw [List.countP_replicate]; rfl
        simp only [List.nil_append, List.length_singleton]
        omega⟩
    | false =>
      go_wp2_with fail
      go_meet
      case rel => exact ⟨_, _, hWM, by
        by_cases hn : 0 < code.length
        · refine .inl (WI.none ?_)
          have := HB.out
          rw [decide_eq_true hn, Bool.true_and, bne_eq_false_iff_eq] at this
          exact (dV_eq d 0).1 this
        · exact .inr ⟨by omega, rfl⟩, by simp, by
        have h2 : falses (List.replicate (code.length + 2) false) = code.length + 2 := by unfold falses; rw [List.countP_replicate]; rfl
        simp only [List.length_nil]
        omega⟩
  case rest =>
  clear hWM f6 fl HB
  obtain ⟨seen, work, hM, HI⟩ := hcut
  go_wp2_with fail
  go_loopw [6] (fun v6 wr => ∃ seen work, WM w.heap.size w.heap.size (w.heap.size + 1) code.length [.string c0, .string n0, .bool s0, .int .i64 p0, .slice AV nV cV, .string r0, .slice AC code.length cC] seen v6 work w wr ∧ Hid ((WI E code.length d seen work ∨ (code.length = 0 ∧ work = [])) ∧ seen.length = code.length + 2 ∧ 2 * falses seen + work.length ≤ 2 * code.length + 4)) (fun v6 wr => 2 * cntF wr (w.heap.size + 1) (code.length + 2) + lenV v6)
  case atStart => exact ⟨seen, work, hM, HI⟩
  case round =>
    clear hM HI
    clear seen work
    obtain ⟨seen, work, hM, HI⟩ := hrel
    have f0 := hM.bf.cell 0 rfl
    have f1 := hM.bf.cell 1 rfl
    have f2 := hM.bf.cell 2 rfl
    have f3 := hM.bf.cell 3 rfl
    have f4 := hM.bf.cell 4 rfl
    have f5 := hM.bf.cell 5 rfl
    have f6 := hM.bf.cell 6 rfl
    have fl := hM.bf.lt
    have HCN := Lib.hid (hM.cnt HI.out.2.1)
    cases work with
    | nil =>
      obtain ⟨A6, c6, rfl, hc6⟩ := hM.qw.isSl
      obtain ⟨A5, c5, hv5, -, hs5⟩ := hM.os.sl (L := Lay.bool) rfl (fun x => rfl)
      injection hv5 with e1 e2 e3
      subst e1
      have HR : Hid (RetW code d wr (.returned (.slice (some ⟨w.heap.size + 1, 0, none⟩) code.length (code.length + 2)))) := by
        refine ⟨_, _, seen.take code.length, rfl, ?_, by omega, fun j x hj => ?_, fun j hj => ?_⟩
        · rw [List.length_take, HI.out.2.1]; omega
        · rw [List.getElem?_take] at hj
          split at hj
          · exact hs5 j x hj
          · cases hj
        · rw [List.getElem?_take, if_pos hj, ← HE.out]
          rcases HI.out.1 with h | ⟨h, _⟩
          · exact h.done j
          · omega
      have hcI : (code.length : Int) ≤ ((code.length + 2 : Nat) : Int) := by omega
      have hbel := hM.bel
      clear HI HCN hs5 hM e2 e3
      go_wp2_with fail
      go_ret
      exact ⟨HR.out, hbel⟩
    | cons i rest =>
      obtain ⟨g6, o6, c6, rfl, hg6, hc6, d6, hq1, hq2⟩ := hM.qw.head
      have HI1 : Hid (WI E code.length d seen (i :: rest)) := HI.out.1.elim id (fun h => by cases h.2)
      have HSL := Lib.hid HI.out.2.1
      have HB2 : Hid (2 * falses seen + (rest.length + 1) ≤ 2 * code.length + 4) := HI.out.2.2
      have hiR : i < code.length + 2 := by
        have := (List.getElem?_eq_some_iff.1 (HI1.out.wk i List.mem_cons_self)).1
        rw [HSL.out] at this; exact this
      have hrl : rest.length ≤ 5000 := by have := HB2.out; omega
      have hrI : (0 : Int) < ((rest.length + 1 : Nat) : Int) := by omega
      have hr1 : (1 : Int) ≤ ((rest.length + 1 : Nat) : Int) := by omega
      obtain ⟨A6, c6', HQ, hA1, hA2⟩ : ∃ A6 c6', Que w.heap.size 3 wr (.slice A6 rest.length c6') (rest.map fun (x : Nat) => (x : Int)) ∧ (c6 = 1 → A6 = some ⟨g6, o6, none⟩ ∧ c6' = 0 ∧ rest.length = 0) ∧ (c6 ≠ 1 → A6 = some ⟨g6, o6 + 1, none⟩ ∧ c6' = c6 - 1) := by
        by_cases h1 : c6 = 1
        · obtain ⟨h2, h3⟩ := hq2 h1
          have h4 : rest.length = 0 := by have := congrArg List.length h3; simpa using this
          exact ⟨some ⟨g6, o6, none⟩, 0, by rw [h4]; exact h2, fun _ => ⟨rfl, rfl, h4⟩, fun h => absurd h1 h⟩
        · exact ⟨some ⟨g6, o6 + 1, none⟩, c6 - 1, by have := hq1 h1; rwa [List.length_map] at this, fun h => absurd h h1, fun _ => ⟨rfl, rfl⟩⟩
      rw [List.length_map] at hc6
      simp only [List.length_map]
      clear HI hq1 hq2
      have hM2 : WM w.heap.size w.heap.size (w.heap.size + 1) code.length [.string c0, .string n0, .bool s0, .int .i64 p0, .slice AV nV cV, .string r0, .slice AC code.length cC] seen (.slice A6 rest.length c6') rest w wr := ⟨hM.bf, hM.os, HQ, hM.bel, hM.sz⟩
      clear HQ hM
      go_upto_region 8 with fail
      go_cut [6] (fun v6 wx => v6 = .slice A6 rest.length c6' ∧ wx = wr)
      case first =>
        by_cases h1 : c6 = 1
        · obtain ⟨rfl, rfl, h2⟩ := hA1 h1
          subst h1
          have h3 : ((rest.length + 1 : Nat) : Int) - 1 = 0 := by omega
          go_wp2_with fail
          go_meet
          case rel => exact ⟨by rw [h2], rfl⟩
        · obtain ⟨rfl, rfl⟩ := hA2 h1
          go_wp2_with fail
          go_meet
          case rel => exact ⟨by first | rfl | simp, rfl⟩
      case rest =>
      obtain ⟨rfl, rfl⟩ := hcut
      clear hA1 hA2 d6 hg6 hc6
      by_cases hin : i < code.length
      · have hiI : ¬ (code.length : Int) ≤ (i : Int) := by omega
        have HC : Hid (ClosedAt code.length i code[i]) := hc.out.at hin
        go_wp2_with fail
        refine (refNextAll_any c0 n0 s0 p0 AV nV cV r0 AC cC code i _ hl hin (hs.mono hM2.bel) HC).mono ?_
        rintro e w2 ⟨⟨v2, rfl, hv2⟩, hb2⟩
        have hL3 := allL_len code.length i code[i]
        obtain ⟨L, HL⟩ : ∃ L, Hid (L = allL code.length i code[i]) := ⟨_, Lib.hid rfl⟩
        have HLE : Hid (∀ y : Int, y ∈ L ↔ ((i : Int), y) ∈ E) := fun y => by rw [HL.out, HE.out, mem_edges_at hin]
        rw [← HL.out] at hv2 hL3
        clear HL HC f0 f1 f2 f3 f4 f5 f6 fl
        have hWJ : Hid (WJ E code.length d i [] seen rest) := HI1.out.start
        have hM3 := hM2.mono hb2
        have hqb : ∀ b, (Value.slice A6 rest.length c6').ownBlock = some b → b < wc.heap.size := fun b hb => (hM2.qw.block b hb).2.1
        obtain ⟨A2, c2, rfl, hc2, -⟩ := hv2.sl (L := Lay.int) rfl (fun x => rfl)
        have hvb : ∀ b, (Value.slice A2 L.length c2).ownBlock = some b → wc.heap.size ≤ b ∧ b < w2.heap.size := fun b hb => World.ownsRow.lt hv2 b hb
        obtain ⟨M0, HM0⟩ : ∃ M0, Hid (M0 = 2 * falses seen + rest.length) := ⟨_, Lib.hid rfl⟩
        have HM1 : Hid (2 * falses seen + rest.length ≤ M0) := by show _ ≤ _; rw [HM0.out]; exact Nat.le_refl _
        have HQ2 : Hid (∀ b, (Value.slice A6 rest.length c6').ownBlock = some b → (Value.slice A2 L.length c2).ownBlock ≠ some b) := fun b hb h2 => by have := hqb b hb; have := hvb b h2; omega
        have hV : Own cellsInt 1 w.heap.size 3 w2 (.slice A2 L.length c2) L := hv2.base_le' hM2.sz
        have hMM : M0 ≤ 2 * code.length + 3 := by have := HB2.out; have := HM0.out; omega
        clear hv2 hM2 hb2 hqb hvb HI1
        go_wp2_with fail
        go_loopw [6, 9] (fun v6 v9 wr => ∃ (k : Nat) (seen : List Bool) (work : List Nat), k ≤ L.length ∧ v9 = .int .i64 k ∧ WM w.heap.size w.heap.size (w.heap.size + 1) code.length [.string c0, .string n0, .bool s0, .int .i64 p0, .slice AV nV cV, .string r0, .slice AC code.length cC] seen v6 work w wr ∧ Hid (WJ E code.length d i (L.take k) seen work) ∧ Hid (2 * falses seen + work.length ≤ M0) ∧
          Hid (∀ b, v6.ownBlock = some b → (Value.slice A2 L.length c2).ownBlock ≠ some b) ∧ Own cellsInt 1 w.heap.size 3 wr (.slice A2 L.length c2) L) (fun _ v9 _ => L.length - (intOf v9).toNat)
        case atStart => exact ⟨0, seen, rest, Nat.zero_le _, rfl, hM3, hWJ, HM1, HQ2, hV⟩
        case round =>
          clear hM3 hWJ HM1 HQ2 hV
          obtain ⟨k, seen2, work2, hk, rfl, hM4, HJ, HMS, HQB, hV4⟩ := hrel
          by_cases hkt : k < L.length
          · have hyL : L[k] ∈ L := List.getElem_mem hkt
            obtain ⟨y, hy⟩ : ∃ y : Nat, L[k] = (y : Int) := ⟨L[k].toNat, by have := (HIN.out _ ((HLE.out _).1 hyL)).2.2.1; dsimp only at this; omega⟩
            have hyN : y < code.length + 2 := by have := (HIN.out _ ((HLE.out _).1 hyL)).2.2.2; dsimp only at this; omega
            have HEY : Hid (((i : Int), (y : Int)) ∈ E) := by have := (HLE.out _).1 hyL; rw [hy] at this; exact this
            have HT : Hid (L.take (k + 1) = L.take k ++ [(y : Int)]) := by show _ = _; rw [List.take_succ_eq_append_getElem hkt, hy]
            obtain ⟨gL, rfl, hgL1, hgL2, -⟩ := hV4.form (by omega)
            have dL := Own.at1 (c := fun x => .int .i64 x) hV4 rfl hkt
            simp only [hy] at dL
            have HSL2 := Lib.hid HJ.out.len
            have hys : y < seen2.length := by rw [HSL2.out]; exact hyN
            have dS := hM4.os.at1 HSL2.out hys
            have hyI : (y : Int) < ((code.length + 2 : Nat) : Int) := by omega
            have hsl := hM4.os.ge1.2
            have HYE := Lib.hid hy
            clear hyL hy
            cases hsy : seen2[y] with
            | true =>
              have HJ2 : Hid (WJ E code.length d i (L.take (k + 1)) seen2 work2) := by
                show WJ _ _ _ _ _ _ _
                rw [HT.out]
                exact HJ.out.old (fun _ => by rw [List.getElem?_eq_getElem hys, hsy])
              rw [hsy] at dS
              clear hsy HJ HT
              go_wp2_with fail
              go_roundw
              case rel => exact ⟨k + 1, seen2, work2, by omega, by go_num, hM4, HJ2, HMS, HQB, hV4⟩
              case measure => simp [intOf]; omega
            | false =>
              have HSF : Hid (seen2[y]? = some false) := by show _ = _; rw [List.getElem?_eq_getElem hys, hsy]
              rw [hsy] at dS
              clear hsy
              by_cases hdy : d = some y
              · have HJ2 : Hid (WJ E code.length d i (L.take (k + 1)) seen2 work2) := by
                  show WJ _ _ _ _ _ _ _
                  rw [HT.out]
                  exact HJ.out.old (fun h => absurd hdy h)
                have tz : ((y : Int) != dV d) = false := by rw [(dV_eq d y).2 hdy]; simp
                clear hdy HJ HT
                go_wp2_with fail
                go_roundw
                case rel => exact ⟨k + 1, seen2, work2, by omega, by go_num, hM4, HJ2, HMS, HQB, hV4⟩
                case measure => simp [intOf]; omega
              · have HJ2 : Hid (WJ E code.length d i (L.take (k + 1)) (seen2.set y true) (work2 ++ [y])) := by
                  show WJ _ _ _ _ _ _ _
                  rw [HT.out]
                  exact HJ.out.new HEY.out hdy HSF.out
                have tz : ((y : Int) != dV d) = true := by rw [bne_iff_ne]; exact fun e => hdy ((dV_eq d y).1 e.symm)
                have HMS2 : Hid (2 * falses (seen2.set y true) + (work2 ++ [y]).length ≤ M0) := by
                  show _ ≤ _
                  have h1 := falses_set HSF.out
                  have h2 := HMS.out
                  rw [List.length_append, List.length_singleton]
                  omega
                have hwl : work2.length ≤ 5000 := by have := HMS.out; omega
                have cf := hM4.os.free1 HSL2.out y
                obtain ⟨hM5, hg5⟩ := hM4.mark HSL2.out (Nat.le_refl _) (by omega) y
                have hV5 := hV4.kept_other hM4.os (by decide) hg5
                clear hdy HJ HT HMS
                go_upto_region 16 with fail
                generalize World.setCell _ _ _ = W1 at *
                have dL5 := Own.at1 (c := fun x => .int .i64 x) hV5 rfl hkt
                simp only [HYE.out] at dL5
                have hgL5 := hV5.ge1.2
                obtain ⟨A7, c7, rfl, -⟩ := hM5.qw.isSl
                rw [List.length_map] at HQB hM5 ⊢
                have hb7 := bw_alloc (o := .cells #[.int .i64 (y : Nat)] 3) (Below.refl W1.heap.size W1)
                obtain ⟨v7, w7, row, hrun, hM7, hg7, hrow, hat⟩ := (hM5.mono hb7).push (by omega) y W1.heap.size (by simp)
                have hV7 : Own cellsInt 1 w.heap.size 3 w7 (.slice (some ⟨gL, 0, none⟩) L.length c2) L := (hV5.mono hb7).kept hg7 (fun b hb => HQB.out b (hrow b hb))
                have HQ7 : Hid (∀ b, v7.ownBlock = some b → (Value.slice (some ⟨gL, 0, none⟩) L.length c2).ownBlock ≠ some b) := fun b hb h2 => by
                  rcases hat with h | ⟨b', h, h3⟩
                  · exact HQB.out b (h ▸ hb) h2
                  · rw [hb] at h
                    injection h with h
                    have e2 : gL = b := by simpa [Value.ownBlock] using h2
                    simp at h3
                    omega
                clear hat hrow hg7
                go_wp2_with (at_builtin; refine wpList_appendRun rfl (.tmp 72) (.tmp 77) 38 rfl rfl rfl hrun ?_)
                go_roundw
                case rel => exact ⟨k + 1, _, _, by omega, by go_num, hM7, HJ2, HMS2, HQ7, hV7⟩
                case measure => simp [intOf]; omega
          · obtain rfl : k = L.length := by omega
            have HW : Hid (WI E code.length d seen2 work2) := by
              have := HJ.out
              rw [List.take_length] at this
              exact this.done (fun z hz => (HLE.out _).2 hz)
            have HSL2 := Lib.hid HJ.out.len
            have HC2 := Lib.hid (hM4.cnt HSL2.out)
            have hlv : ∃ A c, u6 = .slice A work2.length c := by
              obtain ⟨A, c, e, _⟩ := hM4.qw.isSl
              rw [List.length_map] at e
              exact ⟨A, c, e⟩
            clear HJ hkt
            obtain ⟨A9, c9, rfl⟩ := hlv
            go_wp2_with fail
            go_roundw
            case rel => exact ⟨seen2, work2, hM4, .inl HW.out, HSL2.out, by have := HMS.out; omega⟩
            case measure =>
              simp only [lenV]
              rw [HC2.out, HCN.out]
              have := HMS.out
              have := HM0.out
              omega
      · have hiI : (code.length : Int) ≤ (i : Int) := by omega
        have HW : Hid (WI E code.length d seen rest) := by
          refine HI1.out.start.done (fun y hy => ?_)
          rw [HE.out, mem_edgesTo _ (Nat.le_refl _)] at hy
          obtain ⟨k, hk, _, t, _, e⟩ := hy
          injection e with e1 e2
          omega
        clear HI1
        go_wp2_with fail
        go_roundw
        case rel => exact ⟨seen, rest, hM2, .inl HW.out, HSL.out, by have := HB2.out; omega⟩
        case measure => simp only [lenV]; omega
end Go.Proofs.Ythlpndgfphjlkaa
