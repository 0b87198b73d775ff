/-
  Chapter 14: cfg.Graph.
-/
import Derived.Test.YthlpndgfphjlkaaCfgL
import Derived.Test.YthlpndgfphjlkaaCfgM
namespace Go.Proofs.Ythlpndgfphjlkaa
open Go.RowKit Go.Shelf
set_option linter.unusedVariables false
attribute [local go_sem] Oper.semAt_some

theorem graph_long (c0 n0 : ByteArray) (s0 : Bool) (p0 : Int) (AV : Option Addr) (nV cV : Nat) (r0 : ByteArray) (AC : Option Addr) (cC : Nat) (code : List Ins) (w : World) (hm : code.length ≤ maxLen) (hl : 1024 < code.length) :
    Calls Try.prog 6 #[.agg #[.string c0, .string n0, .bool s0, .int .i64 p0, .slice AV nV cV, .string r0, .slice AC code.length cC]] w fun e w' => e = noG 3 ∧ Below w.heap.size w w' := by
  have n1 : (1024 : Int) < (code.length : Int) := by omega
  have bx1 : Box ((w.alloc (.cells #[.string c0, .string n0, .bool s0, .int .i64 p0, .slice AV nV cV, .string r0, .slice AC code.length cC] 25)).alloc (.cells #[.int .i64 0, .slice none 0 0] 28)) (w.heap.size + 1) [.int .i64 0, .slice none 0 0] 28 := Box.at (by simp)
  have hbw : Below w.heap.size w ((w.alloc (.cells #[.string c0, .string n0, .bool s0, .int .i64 p0, .slice AV nV cV, .string r0, .slice AC code.length cC] 25)).alloc (.cells #[.int .i64 0, .slice none 0 0] 28)) := (by repeat (first | assumption | exact Below.refl _ _ | apply bw_alloc | apply bw_drew | apply bw_drewN | apply bw_later | apply bw_step))
  go_enter Try.func6, Try.ntmps6
  go_wp2_with fail
  refine bodyPost_ret (v := .tuple #[.agg #[.int .i64 0, .slice none 0 0], .int .i64 3]) (by simp [results, Try.results6, go_sem]) rfl ⟨rfl, ?_⟩
  exact (by repeat (first | assumption | exact Below.refl _ _ | apply bw_alloc | apply bw_drew | apply bw_drewN | apply bw_later | apply bw_step))
theorem graph_open (c0 n0 : ByteArray) (s0 : Bool) (p0 : Int) (AV : Option Addr) (nV cV : Nat) (r0 : ByteArray) (AC : Option Addr) (cC : Nat) (code : List Ins) (w : World) (hl : code.length ≤ 1024) (hs : Sl Lay.ins w AC code) (hc : ¬ Closed code) :
    Calls Try.prog 6 #[.agg #[.string c0, .string n0, .bool s0, .int .i64 p0, .slice AV nV cV, .string r0, .slice AC code.length cC]] w fun e w' => e = noG 4 ∧ Below w.heap.size w w' := by
  have hb0 : Below w.heap.size w ((w.alloc (.cells #[.string c0, .string n0, .bool s0, .int .i64 p0, .slice AV nV cV, .string r0, .slice AC code.length cC] 25)).alloc (.cells #[.int .i64 0, .slice none 0 0] 28)) := (by repeat (first | assumption | exact Below.refl _ _ | apply bw_alloc | apply bw_drew | apply bw_drewN | apply bw_later | apply bw_step))
  have n1 : ¬ (1024 : Int) < (code.length : Int) := by omega
  go_enter Try.func6, Try.ntmps6
  go_wp2_with fail
  refine (closed_any c0 n0 s0 p0 AV nV cV r0 AC cC code _ hl (hs.mono hb0)).mono ?_
  rw [decide_eq_false hc]
  rintro e w1 ⟨rfl, hb1⟩
  have bx1 : Box w1 (w.heap.size + 1) [.int .i64 0, .slice none 0 0] 28 := (Box.at (w := w.alloc _) (by simp)).mono hb1
  have bl1 := bx1.lt
  have y0 := bx1.cell 0 rfl
  have y1 := bx1.cell 1 rfl
  have yf := fun i => bx1.free i
  obtain ⟨bx2, hg2⟩ := bx1.store2 (.int .i64 0) (.slice none 0 0)
  have q0 := bx2.cell 0 rfl
  have q1 := bx2.cell 1 rfl
  have hbw : Below w.heap.size w w1 := below_step hb0 hb1
  have hbw2 := hbw.grown hg2 hbw.size (fun k hk => by injection hk with hk; omega)
  go_wp2_with fail
  refine bodyPost_ret (v := .tuple #[.agg #[.int .i64 0, .slice none 0 0], .int .i64 4]) (by simp [results, Try.results6, go_sem, q0, q1]) rfl ⟨rfl, hbw2⟩

theorem arcs_in (n : Nat) (c0 n0 : ByteArray) (s0 : Bool) (p0 : Int) (AV : Option Addr) (nV cV : Nat) (r0 : ByteArray) (AC : Option Addr) (cC : Nat) (code : List Ins) (w : World) :
    CallsIn Fence.wide n Try.prog 17 #[.agg #[.string c0, .string n0, .bool s0, .int .i64 p0, .slice AV nV cV, .string r0, .slice AC code.length cC]] w fun e w' => e = .returned (.func (.func 27) #[] #[.pointer (some ⟨w.heap.size, 0, none⟩)]) ∧ w' = w.alloc (.cells #[.string c0, .string n0, .bool s0, .int .i64 p0, .slice AV nV cV, .string r0, .slice AC code.length cC] 25) := by
  refine callsIn_of_wp Try.func17 rfl trivial ?_ rfl
  simp only [Try.ntmps17, List.size_toArray, List.length_cons, List.length_nil, Nat.reduceAdd, Nat.reduceSub, Array.replicate_succ, Array.replicate_zero, List.push_toArray, List.append_toArray, List.nil_append, List.cons_append]
  gi_wp2
  go_ret
  exact ⟨rfl, rfl⟩
theorem arcs_stops (n Bf n₀ : Nat) (c0 n0 : ByteArray) (s0 : Bool) (p0 : Int) (AV : Option Addr) (nV cV : Nat) (r0 : ByteArray) (AC : Option Addr) (cC : Nat) (code : List Ins) (hn : 1 ≤ n) (hl : code.length ≤ 1024) (hc : Hid (Closed code)) (w0 w : World) (hw0 : w0.heap.size = n₀) (hn0 : n₀ ≤ w.heap.size) (hBf : Box w Bf [.string c0, .string n0, .bool s0, .int .i64 p0, .slice AV nV cV, .string r0, .slice AC code.length cC] 25) (hww : Below n₀ w0 w) (hs : Sl Lay.ins w0 AC code) :
    SeqStopsK Fence.wide n Try.prog 27 #[.pointer (some ⟨Bf, 0, none⟩)] encArc (KpE n₀) (fun ys => ys = arcsTo code code.length) (fun _ => True) 8192 w := fun l J Jx W hW hJ _ hY h0 => by
  have := arcs1_in n l Bf n₀ c0 n0 s0 p0 AV nV cV r0 AC cC code hn hl hc J Jx W hJ hY (Nat.le_trans hn0 hW.size) (hBf.mono hW) w0 hw0 (hww.trans (hW.mono hn0)) hs h0
  exact this

/-- What cfg.Graph keeps between two rounds. -/
structure InA (w : World) (fv : List Value) (Be : Nat) (l : List (Int × Int)) (wr : World) : Prop where
  bf : Box wr w.heap.size fv 25
  br : Box wr (w.heap.size + 1) [.int .i64 0, .slice none 0 0] 28
  hbe : w.heap.size + 1 < Be
  g : ∃ A m c, Box wr Be [.slice A m c] 26 ∧ Own cellsInt2 2 w.heap.size 33 wr (.slice A m c) l
  bel : Below w.heap.size w wr
theorem InA.mono {w : World} {fv : List Value} {bg : Nat} {l : List (Int × Int)} {wr wq : World} (h : InA w fv bg l wr) (hb : Below wr.heap.size wr wq) : InA w fv bg l wq := by
  obtain ⟨A, m, c, h1, h2⟩ := h.g
  exact ⟨h.bf.mono hb, h.br.mono hb, h.hbe, ⟨A, m, c, h1.mono hb, h2.mono hb⟩, below_step h.bel hb⟩
/-- A box and a row abide the turn of a block that is no cells. -/
theorem Box.keptN {X Y : World} {row : Option Nat} {b : Nat} {cs : List Value} {t : TypeId} (h : Box X b cs t) (hg : X.grownBy Y row) (hr : ∀ r, row = some r → ∃ o : Obj, X.heap[r]? = some o ∧ o.isCells = false) : Box Y b cs t :=
  h.grown hg fun e => by
    obtain ⟨o, ho, hc⟩ := hr b e.symm
    have h' : X.heap[b]? = some (.cells cs.toArray t (0, 0)) := h
    rw [h'] at ho
    injection ho with ho
    subst ho
    cases hc
theorem Own.keptN {α : Type} {cells : α → List Value} {size base : Nat} {e : TypeId} {X Y : World} {row : Option Nat} {v : Value} {l : List α} (h : Own cells size base e X v l) (hg : X.grownBy Y row) (hr : ∀ r, row = some r → ∃ o : Obj, X.heap[r]? = some o ∧ o.isCells = false) : Own cells size base e Y v l := by
  refine h.kept hg fun b hb hv => ?_
  obtain ⟨o, ho, hc⟩ := hr b hb
  rcases h.2 with ⟨rfl, _⟩ | ⟨g, cap, cur, rfl, _, hh, _⟩
  · simp [Value.ownBlock] at hv
  · have : g = b := by simpa [Value.ownBlock] using hv
    subst this
    rw [hh] at ho
    injection ho with ho
    subst ho
    cases hc
theorem InA.own {w : World} {fv : List Value} {Be B : Nat} {f : List Arc → List (Int × Int)} (hB : w.heap.size ≤ B) : OwnFrom B (fun pre W => InA w fv Be (f pre) W) := fun s X Y row hs hg hr => by
  obtain ⟨A, m, c, h1, h2⟩ := hs.g
  have hr' := fun r e => (hr r e).2
  exact ⟨hs.bf.keptN hg hr', hs.br.keptN hg hr', hs.hbe, ⟨A, m, c, h1.keptN hg hr', h2.keptN hg hr'⟩, hs.bel.grown hg hs.bel.size (fun k e => Nat.le_trans hB (hr k e).1)⟩
theorem KpE.grown {n₀ : Nat} {W W' : World} {row : Option Nat} (hg : W.grownBy W' row) (hn : n₀ ≤ W.heap.size) (hrow : ∀ b, row = some b → n₀ ≤ b ∧ ∀ o, W.heap[b]? = some o → ∃ cs t fz, o = Obj.cells cs t fz ∧ (t = 33 ∨ t = 26)) : KpE n₀ W W' := by
  refine ⟨(Below.refl _ _).grown hg hn fun k e => (hrow k e).1, fun b cs t fz hb h1 h2 => ?_⟩
  refine (hg.block b (Array.getElem?_eq_some_iff.1 hb).1 fun e => ?_).trans hb
  obtain ⟨cs', t', fz', ho, ht⟩ := (hrow b e.symm).2 _ hb
  injection ho with e1 e2 e3
  subst e2
  rcases ht with h | h
  · exact h1 h
  · exact h2 h
theorem InA.push {w : World} {fv : List Value} {bg : Nat} {l : List (Int × Int)} {wr W1 : World} (h : InA w fv bg l wr) (hl : l.length ≤ 100000) (hbW : Below wr.heap.size wr W1) (y : Int × Int) :
    ∃ A m c, Box W1 bg [.slice A m c] 26 ∧ Box wr bg [.slice A m c] 26 ∧ ∃ v' w', (Builtin.append_ #[26, 26] 26 #[.slice A m c, .slice (some ⟨W1.heap.size, 0, none⟩) 1 1]).run Try.prog (W1.alloc (.cells #[.int .i64 y.1, .int .i64 y.2] 33)) = .ok v' w' ∧
      Box w' bg [.slice A m c] 26 ∧ (∃ B q d, v' = .slice B q d) ∧ InA w fv bg (l ++ [y]) (w'.setCell ⟨bg, 0, none⟩ v') ∧ KpE w.heap.size (W1.alloc (.cells #[.int .i64 y.1, .int .i64 y.2] 33)) (w'.setCell ⟨bg, 0, none⟩ v') ∧ KeepsOthers (W1.alloc (.cells #[.int .i64 y.1, .int .i64 y.2] 33)) (w'.setCell ⟨bg, 0, none⟩ v') := by
  obtain ⟨A, m, c, hbs, hown⟩ := h.g
  have hsz := h.bel.size
  have hb1 : Below wr.heap.size wr (W1.alloc (.cells #[.int .i64 y.1, .int .i64 y.2] 33)) := bw_alloc hbW
  obtain ⟨v', w', hrun, ho', hb', hg', hsz'⟩ := run_push edgeTy cellsInt2_ok 26 (hown.mono hb1) y W1.heap.size 1 (cells_two_new _ _ _ _) (by unfold maxLen; omega) (by omega) (by have := hb1.size; omega)
  have hbs1 := hbs.mono hb1
  have hbs' := hbs1.grown hg' ((hown.mono hb1).ne_box hbs1 (by decide))
  have hf1 := h.bf.mono hb1
  have hf' := hf1.grown hg' ((hown.mono hb1).ne_box hf1 (by decide))
  have hr1 := h.br.mono hb1
  have hr' := hr1.grown hg' ((hown.mono hb1).ne_box hr1 (by decide))
  have hbg := h.hbe
  have hz1 := hb1.size
  obtain ⟨A', n', c', rfl⟩ := ho'.isSl
  have hgs := grown_set w' bg 0 (.slice A' n' c')
  have hown1 := hown.mono hb1
  refine ⟨A, m, c, hbs.mono hbW, hbs, _, w', hrun, hbs', ⟨_, _, _, rfl⟩, ⟨?_, ?_, h.hbe, ⟨A', n', c', hbs'.set 0 _, ?_⟩, ?_⟩, ?_, ?_⟩
  · exact hf'.setOther (by simp; omega) _
  · exact hr'.setOther (by simp; omega) _
  · exact ho'.kept_box hbs' (by decide) hgs
  · exact ((h.bel.trans (hb1.mono hsz)).trans hb').setCell (by simp; omega) _
  · refine (KpE.grown hg' (by omega) fun b hb => ?_).trans (KpE.grown hgs (by omega) fun b hb => ?_)
    · refine ⟨(World.ownsRow.lt hown1 b hb).1, fun o ho => ?_⟩
      rcases hown1.2 with ⟨hv, _⟩ | ⟨g, cap, cur, hv, _, hh, _⟩
      · rw [hv] at hb; simp [Value.ownBlock] at hb
      · rw [hv] at hb
        have : g = b := by simpa [Value.ownBlock] using hb
        subst this
        rw [hh] at ho
        injection ho with ho
        exact ⟨_, _, _, ho.symm, Or.inl rfl⟩
    · have hb2 : b = bg := (Option.some.inj hb).symm
      rw [hb2]
      refine ⟨by omega, fun o ho => ?_⟩
      have h' : w'.heap[bg]? = some (.cells [Value.slice A m c].toArray 26 (0, 0)) := hbs'
      rw [h'] at ho
      injection ho with ho
      exact ⟨_, _, _, ho.symm, Or.inr rfl⟩
  · refine (KeepsOthers.of_grownBy hg' fun j o hj ho => ?_).trans (KeepsOthers.setCell _ _ _)
    rcases hown1.2 with ⟨hv, _⟩ | ⟨g, cap, cur, hv, _, hh, _⟩
    · rw [hv] at hj; simp [Value.ownBlock] at hj
    · rw [hv] at hj
      have : g = j := by simpa [Value.ownBlock] using hj
      subst this
      rw [hh] at ho
      have ho' := Option.some.inj ho
      rw [← ho']
      rfl
theorem wpListIn_appendRun {F : Fence} {n : Nat} {P : Program} {ops : Array Oper} {rest : List Oper} {o : Oper} {a : Act} {w w' : World} {Q : Exit → Act → World → Prop} (hgd : o.guard = none) (s x : Operand) (t : TypeId)
    (ho : o.op = .call { callee := .builtin .append, args := #[s, x], argTypes := #[t, t] }) {u v v' : Value} (hs : a.eval s = v) (hx : a.eval x = u) (hrun : (Builtin.append_ #[t, t] o.type #[v, u]).run P w = .ok v' w')
    (h : wpListIn F n P ops Q rest (a.put o.dst v') w') : wpListIn F n P ops Q (o :: rest) a w := by
  refine wpListIn_plain hgd fun K hK' => ?_
  unfold Oper.wpIn
  refine ⟨?_, ?_⟩
  · simp [Oper.about, ho, resolve, Target.leads, Sem.run_pure]
  · rw [Oper.semAt_plain F _ _ (by rw [ho]; intro c hc'; cases hc')]
    simp [execOp, ho, resolve, invoke, builtin, hs, hx, hrun, Result.andThen]
    exact hK' _ _ h
def edgeOf (x : Arc) : Int × Int := (x.1, x.2.1)
theorem arcsTo_in {code : List Ins} (hc : Closed code) : ∀ k, k ≤ code.length → ∀ x ∈ arcsTo code k, inG ((code.length : Int) + 2) (edgeOf x)
  | 0, _, x, hx => by simp [arcsTo] at hx
  | k + 1, hk, x, hx => by
    have hlt : k < code.length := by omega
    have hca := hc.at hlt
    rw [arcsTo_succ hlt, List.mem_append] at hx
    rcases hx with hx | hx
    · exact arcsTo_in hc k (by omega) x hx
    · rw [List.mem_append, List.mem_append] at hx
      rcases hx with (hx | hx) | hx
      · unfold arcsN at hx
        obtain ⟨t, ht, rfl⟩ := List.mem_map.1 hx
        have h1 := hca.jmp
        have h2 := hca.next
        unfold endI at h2
        unfold nextL at ht
        unfold inG edgeOf
        by_cases o1 : code[k].op = 13 ∨ code[k].op = 14
        · rw [if_pos o1] at ht; simp at ht
        · rw [if_neg o1] at ht
          by_cases o2 : code[k].op = 12
          · rw [if_pos o2] at ht
            simp at ht
            have := h1 (Or.inr o2)
            dsimp only
            omega
          · rw [if_neg o2] at ht
            have h3 := h2 (by omega)
            by_cases o3 : code[k].op = 11
            · rw [if_pos o3] at ht
              have := h1 (Or.inl o3)
              dsimp only
              split at ht
              · simp at ht; omega
              · split at ht <;> simp at ht <;> omega
            · rw [if_neg o3] at ht
              simp at ht
              dsimp only
              omega
      · unfold arcsR at hx
        split at hx
        · simp at hx; subst hx; unfold inG edgeOf; dsimp only; omega
        · simp at hx
      · unfold arcsH at hx
        split at hx
        · simp at hx
          subst hx
          have := hca.hnd
          unfold inG edgeOf hndI
          dsimp only
          split <;> omega
        · simp at hx

set_option maxRecDepth 100000 in
set_option maxHeartbeats 2000000 in
theorem graph_any (c0 n0 : ByteArray) (s0 : Bool) (p0 : Int) (AV : Option Addr) (nV cV : Nat) (r0 : ByteArray) (AC : Option Addr) (cC : Nat) (code : List Ins) (w : World) (hl : code.length ≤ 1024) (hs : Sl Lay.ins w AC code) (hc : Hid (Closed code)) :
    Calls Try.prog 6 #[.agg #[.string c0, .string n0, .bool s0, .int .i64 p0, .slice AV nV cV, .string r0, .slice AC code.length cC]] w fun e w' => RetG w' ((code.length : Int) + 2) (ascP ((arcsTo code code.length).map edgeOf)) e ∧ Below w.heap.size w w' := by
  have hb0 : Below w.heap.size w ((w.alloc (.cells #[.string c0, .string n0, .bool s0, .int .i64 p0, .slice AV nV cV, .string r0, .slice AC code.length cC] 25)).alloc (.cells #[.int .i64 0, .slice none 0 0] 28)) := (by repeat (first | assumption | exact Below.refl _ _ | apply bw_alloc | apply bw_drew | apply bw_drewN | apply bw_later | apply bw_step))
  have n1 : ¬ (1024 : Int) < (code.length : Int) := by omega
  have hmod : ((code.length : Int) + 2 + 9223372036854775808) % 18446744073709551616 - 9223372036854775808 = (code.length : Int) + 2 := by omega
  obtain ⟨E, HE⟩ : ∃ E, Hid (E = (arcsTo code code.length).map edgeOf) := ⟨_, Lib.hid rfl⟩
  obtain ⟨R, HR⟩ : ∃ R, Hid (R = ascP E) := ⟨_, Lib.hid rfl⟩
  rw [← HE.out, ← HR.out]
  refine (callsIn_wide (n := 5)).1 ?_
  refine callsIn_of_wp_marks Try.func6 rfl trivial ?_ rfl
  simp only [Try.ntmps6, List.size_toArray, List.length_cons, List.length_nil, Nat.reduceAdd, Nat.reduceSub, Array.replicate_succ, Array.replicate_zero, List.push_toArray, List.append_toArray, List.nil_append, List.cons_append]
  gi_wp2
  refine ⟨trivial, (callsIn_wide.2 (closed_any c0 n0 s0 p0 AV nV cV r0 AC cC code _ hl (hs.mono hb0))).mono ?_⟩
  rw [decide_eq_true hc.out]
  rintro e w1 ⟨rfl, hb1⟩
  have bf1 : Box w1 w.heap.size [.string c0, .string n0, .bool s0, .int .i64 p0, .slice AV nV cV, .string r0, .slice AC code.length cC] 25 := ((Box.new w _ _).alloc _).mono hb1
  have br1 : Box w1 (w.heap.size + 1) [.int .i64 0, .slice none 0 0] 28 := (Box.at (w := w.alloc _) (by simp)).mono hb1
  have hbw : Below w.heap.size w w1 := below_step hb0 hb1
  have f0 := bf1.cell 0 rfl
  have f1 := bf1.cell 1 rfl
  have f2 := bf1.cell 2 rfl
  have f3 := bf1.cell 3 rfl
  have f4 := bf1.cell 4 rfl
  have f5 := bf1.cell 5 rfl
  have f6 := bf1.cell 6 rfl
  have fl := bf1.lt
  have rl := br1.lt
  gi_wp2
  refine ⟨trivial, (arcs_in _ c0 n0 s0 p0 AV nV cV r0 AC cC code _).mono ?_⟩
  rintro e w2 ⟨rfl, rfl⟩
  gi_wp2
  generalize hW : World.alloc _ _ = W0
  have hin : InA w [.string c0, .string n0, .bool s0, .int .i64 p0, .slice AV nV cV, .string r0, .slice AC code.length cC] w1.heap.size ([] : List (Int × Int)) W0 := by
    rw [← hW]
    exact ⟨(bf1.alloc _).alloc _, (br1.alloc _).alloc _, by omega, ⟨none, 0, 0, (Box.new _ _ _).alloc _, Own.nil⟩, bw_alloc (bw_alloc hbw)⟩
  have hBf : Box W0 (w1.heap.size + 1) [.string c0, .string n0, .bool s0, .int .i64 p0, .slice AV nV cV, .string r0, .slice AC code.length cC] 25 := by rw [← hW]; exact Box.at (by simp)
  clear hW
  have hal := arcsTo_len code code.length
  refine wpIn_rangeFunc_ownH (w0 := W0) rfl (by omega) (gf := 27) (lb := #[.pointer (some ⟨w1.heap.size + 1, 0, none⟩)]) rfl trivial (enters_of Try.func27 (by kernel_rfl) rfl)
    (arcs_stops _ (w1.heap.size + 1) w.heap.size c0 n0 s0 p0 AV nV cV r0 AC cC code (by omega) hl hc w W0 rfl hin.bel.size hBf hin.bel hs) (fun h k => h.trans k) (KpE.put hin.bel.size) (Below.refl _ _) (fun _ => rfl)
    (fun pre W => InA w [.string c0, .string n0, .bool s0, .int .i64 p0, .slice AV nV cV, .string r0, .slice AC code.length cC] w1.heap.size (pre.map edgeOf) W)
    (fun _ _ _ => False)
    (InA.own hin.bel.size)
    (fun _ _ _ _ _ hs _ _ => hs)
    hin
    (fun x a' W => ∃ Bx, Box W Bx [.int .i64 x.1, .int .i64 x.2.1, .bool x.2.2] 47 ∧ a' = { tmps := #[.agg #[.string c0, .string n0, .bool s0, .int .i64 p0, .slice AV nV cV, .string r0, .slice AC code.length cC], .pointer (some ⟨w.heap.size, 0, none⟩), .pointer (some ⟨w.heap.size + 1, 0, none⟩), .int .i64 0, .pointer (some ⟨w1.heap.size, 0, none⟩), .pointer (some ⟨Bx, 0, none⟩), .pointer (some ⟨w.heap.size, 6, none⟩), .slice AC code.length cC, .int .i64 code.length, .bool false, undef, .agg #[.string c0, .string n0, .bool s0, .int .i64 p0, .slice AV nV cV, .string r0, .slice AC code.length cC], .bool true, .bool false, undef, .agg #[.string c0, .string n0, .bool s0, .int .i64 p0, .slice AV nV cV, .string r0, .slice AC code.length cC], .func (.func 27) #[] #[.pointer (some ⟨w1.heap.size + 1, 0, none⟩)], .agg #[.int .i64 x.1, .int .i64 x.2.1, .bool x.2.2], undef, undef, undef, undef, undef, undef, undef, undef, undef, undef, undef, undef, undef, undef, undef, undef], defers := [] })
    (fun x a' _ X Y row hs hg hr => by obtain ⟨Bx, h2, h3⟩ := hs; exact ⟨Bx, h2.keptN hg (fun r e => (hr r e).2), h3⟩)
    ?assign ?body ?done ?stop
  case assign =>
    rintro l pre x W K hi hK
    clear hmod hal f0 f1 f2 f3 f4 f5 f6 fl rl hbw br1 bf1 hb1 hb0 n1
    unfold encArc
    gi_wp2
    exact hK _ _ ((KeepsOthers.alloc _ _).from _) (KpE.of_below hi.bel.size (bw_alloc (Below.refl _ _))) (hi.mono (bw_alloc (Below.refl _ _))) ⟨W.heap.size, Box.new W _ _, rfl⟩
  case body =>
    intro l pre x a' W hl' _ hi hax hlt
    clear hmod hal f0 f1 f2 f3 f4 f5 f6 fl rl hbw br1 bf1 hb1 hb0 n1
    obtain ⟨Bx, bX, rfl⟩ := hax
    have x0 := bX.cell 0 rfl
    have x1 := bX.cell 1 rfl
    have xl := bX.lt
    obtain ⟨A, m, c, hb1, hb2, v', w', hrun, hbx, ⟨B, q, d, rfl⟩, hnext, hkp, hko⟩ := hi.push (W1 := W) (by rw [List.length_map]; omega) (Below.refl _ _) (x.1, x.2.1)
    have y0 := hb1.cell 0 rfl
    have yl := hb1.lt
    have z0 := hbx.cell 0 rfl
    have zl := hbx.lt
    have zf := fun i => hbx.free i
    gi_wp2_with (gi_at_builtin; refine wpListIn_appendRun rfl (.tmp 18) (.tmp 24) 26 rfl rfl rfl hrun ?_)
    exact ⟨((KeepsOthers.alloc _ _).trans hko).from _, (KpE.of_below hi.bel.size (bw_alloc (Below.refl _ _))).trans hkp, by show InA _ _ _ (List.map edgeOf (pre ++ [x])) _; rw [List.map_append]; exact hnext⟩
  case done =>
    intro D ys W hD hys hi hK
    subst hys
    have hlen : E.length ≤ 32768 := by rw [HE.out, List.length_map]; omega
    have HI : Hid (∀ p ∈ E, inG ((code.length : Int) + 2) p) := fun p hp => by
      rw [HE.out] at hp
      obtain ⟨x, hx, rfl⟩ := List.mem_map.1 hp
      exact arcsTo_in hc.out _ (Nat.le_refl _) x hx
    replace hi : InA w [.string c0, .string n0, .bool s0, .int .i64 p0, .slice AV nV cV, .string r0, .slice AC code.length cC] w1.heap.size E W := by rw [HE.out]; exact hi
    have hDl := hBf.lt
    have hDe := hin.hbe
    obtain ⟨A, m, c, hbx, hown⟩ := hi.g
    obtain ⟨A3, c3, hv, hc3, hs3⟩ := hown.sl (L := Lay.int2) rfl (fun x => rfl)
    injection hv with e1 e2 e3
    subst e1 e2 e3
    have y0 := hbx.cell 0 rfl
    have yl := hbx.lt
    have g6 := hi.bf.cell 6 rfl
    have gl := hi.bf.lt
    clear hal f0 f1 f2 f3 f4 f5 f6 fl rl hbw br1 bf1 hb1 hb0 n1
    gi_wp2
    refine ⟨trivial, (callsIn_wide.2 (make_any ((code.length : Int) + 2) A c E W (by omega) (by omega) HI hlen hs3)).mono ?_⟩
    rintro e w5 ⟨⟨A5, c5, rfl, ho5⟩, hb5⟩
    have hK5 : w5.heap[D]? = some (.deferred (some [])) := (hb5.block D (Array.getElem?_eq_some_iff.1 hK).1).trans hK
    have hbr5 := hi.br.mono hb5
    have hbw5 := below_step hi.bel hb5
    rw [← HR.out] at ho5 ⊢
    have rl := hbr5.lt
    have r0 := hbr5.cell 0 rfl
    have r1 := hbr5.cell 1 rfl
    have rf := fun i => hbr5.free i
    obtain ⟨bx6, hg6⟩ := hbr5.store2 (.int .i64 ((code.length : Int) + 2)) (.slice A5 R.length c5)
    have hbw6 := hbw5.grown hg6 hbw5.size (fun k hk => by injection hk with hk; omega)
    have hown6 := (ho5.kept_box hbr5 (by decide) hg6).base_le' hi.bel.size
    have hK6 := (hg6.block D (Array.getElem?_eq_some_iff.1 hK5).1 (fun e => by injection e with e; omega)).trans hK5
    gi_wp2
    generalize World.setCell _ _ _ = w6 at *
    have hgp := grownBy_putObj' w6 D (.deferred none)
    have hnc : ∀ r, some D = some r → ∃ o : Obj, w6.heap[r]? = some o ∧ o.isCells = false := fun r e => by injection e with e; subst e; exact ⟨_, hK6, rfl⟩
    have bx7 := bx6.keptN hgp hnc
    have hown7 := hown6.keptN hgp hnc
    have q0 := bx7.cell 0 rfl
    have q1 := bx7.cell 1 rfl
    obtain ⟨A7, c7, hv7, hc7, hs7⟩ := hown7.sl (L := Lay.int2) rfl (fun x => rfl)
    injection hv7 with e1 e2 e3
    subst e1 e3
    refine ⟨by simp, .inl ⟨_, _, rfl, run_takeDeferred hK6, ?_⟩⟩
    refine ⟨.tuple #[.agg #[.int .i64 ((code.length : Int) + 2), .slice A5 R.length c5], .int .i64 0], by simp [results, Try.results6, go_sem, q0, q1], ⟨A5, c5, rfl, hc7, hs7⟩, ?_⟩
    exact hbw6.trans (belowK_b (w := w) (Nat.le_refl _) _ D _ _ (Nat.le_trans hin.bel.size hD) hK6 rfl rfl)
  case stop =>
    rintro D c pre W _ _ h _
    exact h.elim
end Go.Proofs.Ythlpndgfphjlkaa
