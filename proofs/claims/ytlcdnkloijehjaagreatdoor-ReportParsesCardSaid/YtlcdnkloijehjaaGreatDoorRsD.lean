/-
  Chapter 47: the reference's reader: a finding.
-/
import Derived.Test.YtlcdnkloijehjaaGreatDoorRsB
import Derived.Test.YtlcdnkloijehjaaGreatDoorMr3
import Derived.Test.YtlcdnkloijehjaaGreatDoorMr2
import Derived.Test.YtlcdnkloijehjaaGreatDoorMr4
namespace Go.Proofs.YtlcdnkloijehjaaGreatDoor
open Go.RowKit
set_option linter.unusedVariables false

/-- The number of a word, at any error. -/
def NumA (wl : World) (L : List (List ByteArray)) (A : Option Addr) (c rb I : Nat) (E : Int) (x : ByteArray) (W : World) (e : Ending) (w' : World) : Prop :=
  ∃ (k : Int) (J : Nat) (E' : Int), e = .returned (.int .i64 k) ∧ RrS wl L A c rb J E' w' ∧ W.grownBy w' (some rb) ∧ ((E = 0 ∧ numP x = some k ∧ E' = 0 ∧ J = I) ∨ (E = 0 ∧ numP x = none ∧ k = 0 ∧ E' = 2 ∧ J = I - 1) ∨ (E ≠ 0 ∧ k = 0 ∧ E' = E ∧ J = I))
theorem refNum_any {wl : World} {L : List (List ByteArray)} {A : Option Addr} {c rb I : Nat} {E : Int} (x : ByteArray) (W : World) (hr : RrS wl L A c rb I E W) (hI : E = 0 → 1 ≤ I) (hL : L.length ≤ 2000000) (hx : x.size ≤ 2000000) :
    Calls Tryz.prog 80 #[.pointer (some ⟨rb, 0, none⟩), .string x] W fun e w' => NumA wl L A c rb I E x W e w' := by
  refine (refNumber_any x W hr hI hL hx).mono ?_
  rintro e w' (⟨h1, rfl, hb⟩ | ⟨h1, h2, rfl, hr2, hg2⟩ | ⟨h1, n, h2, rfl, hb⟩)
  · exact ⟨0, I, E, rfl, hr.mono hb, grown_below hb _, Or.inr (Or.inr ⟨h1, rfl, rfl, rfl⟩)⟩
  · exact ⟨0, I - 1, 2, rfl, hr2, hg2, Or.inr (Or.inl ⟨h1, h2, rfl, rfl, rfl⟩)⟩
  · exact ⟨n, I, E, rfl, hr.mono hb, grown_below hb _, Or.inl ⟨h1, h2, h1, rfl⟩⟩
/-- The walk's state: the reader, the result, the finding. -/
structure FQ (wl W : World) (L : List (List ByteArray)) (A : Option Addr) (c rb I : Nat) (E : Int) (b2 b3 : Nat) (fc : List Value) (w : World) : Prop where
  rd : RrS wl L A c rb I E w
  x2 : Box w b2 zeroF 46
  x3 : Box w b3 fc 46
  gr : W.grownBy w (some rb)
  l1 : rb < W.heap.size
  l2 : W.heap.size ≤ b2
  l3 : b2 < b3
section
variable {wl W : World} {L : List (List ByteArray)} {A : Option Addr} {c rb I : Nat} {E : Int} {b2 b3 : Nat} {fc : List Value} {w w' : World}
theorem FQ.mono (h : FQ wl W L A c rb I E b2 b3 fc w) (hb : Below w.heap.size w w') : FQ wl W L A c rb I E b2 b3 fc w' :=
  ⟨h.rd.mono hb, h.x2.mono hb, h.x3.mono hb, grown_later h.gr hb, h.l1, h.l2, h.l3⟩
theorem FQ.turn {J : Nat} {E' : Int} (h : FQ wl W L A c rb I E b2 b3 fc w) (hr : RrS wl L A c rb J E' w') (hg : w.grownBy w' (some rb)) : FQ wl W L A c rb J E' b2 b3 fc w' := by
  have h1 := h.l1; have h2 := h.l2; have h3 := h.l3
  refine ⟨hr, h.x2.grown hg (fun e => ?_), h.x3.grown hg (fun e => ?_), grown_trans h.gr hg, h1, h2, h3⟩
  all_goals (injection e with e; omega)
theorem FQ.wlt (h : FQ wl W L A c rb I E b2 b3 fc w) : wl.heap.size < W.heap.size := Nat.lt_of_le_of_lt h.rd.lb h.l1
theorem FQ.set (h : FQ wl W L A c rb I E b2 b3 fc w) (i : Nat) (v : Value) : FQ wl W L A c rb I E b2 b3 (fc.set i v) (w.setCell ⟨b3, i, none⟩ v) := by
  have h1 := h.l1; have h2 := h.l2; have h3 := h.l3; have h4 := h.wlt
  exact ⟨⟨h.rd.bx.setOther (by show b3 ≠ rb; omega) v, bw_setCell h.rd.bel (by show wl.heap.size ≤ b3; omega), h.rd.lb, h.rd.le⟩, h.x2.setOther (by show b3 ≠ b2; omega) v, h.x3.set i v, grown_new h.gr (grown_set _ _ _ _) (by omega), h1, h2, h3⟩
theorem FQ.row {v : Value} {α : Type} {cs : α → List Value} {base size : Nat} {e : TypeId} {l : List α} (h : FQ wl W L A c rb I E b2 b3 fc w) (ho : Own cs size base e w v l) (hbase : W.heap.size ≤ base) (e2 : e ≠ 46) (e3 : e ≠ 88) (hg : w.grownBy w' v.ownBlock) : FQ wl W L A c rb I E b2 b3 fc w' :=
  ⟨⟨h.rd.bx.grown hg (ho.ne_box h.rd.bx e3), h.rd.bel.grown hg h.rd.bel.size (fun k hk => by have h1 := (World.ownsRow.lt ho k hk).1; have h2 := h.wlt; omega), h.rd.lb, h.rd.le⟩, h.x2.grown hg (ho.ne_box h.x2 e2), h.x3.grown hg (ho.ne_box h.x3 e2), grown_own h.gr hg (fun k hk => Nat.le_trans hbase (World.ownsRow.lt ho k hk).1), h.l1, h.l2, h.l3⟩
/-- A cell of the lines. -/
theorem FQ.cl (h : FQ wl W L A c rb I E b2 b3 fc w) {b o : Nat} {v : Value} (hb : b < wl.heap.size) (hc : wl.cell? ⟨b, o, none⟩ = some v) : w.cell? ⟨b, o, none⟩ = some v := by rw [h.rd.bel.cell (p := ⟨b, o, none⟩) hb]; exact hc
theorem FQ.blt (h : FQ wl W L A c rb I E b2 b3 fc w) {b : Nat} (hb : b < wl.heap.size) : b < w.heap.size := Nat.lt_of_lt_of_le hb h.rd.bel.size
end
theorem Sl.str_get {w : World} {b o : Nat} {l : List ByteArray} (h : Sl Lay.str w (some ⟨b, o, none⟩) l) (i : Nat) {x : ByteArray} (hx : l[i]? = some x) : w.cell? ⟨b, o + i, none⟩ = some (.string x) := by
  obtain ⟨hi, e⟩ := List.getElem?_eq_some_iff.1 hx
  obtain ⟨b', o', e1, _, hc⟩ := h.str_at hi
  injection e1 with e1
  injection e1 with z1 z2
  subst z1 z2
  rw [← e]
  exact hc
/-- The last kind below k with this word. -/
def kF (x : List UInt8) : Nat → Int
  | 0 => 0
  | k + 1 => if k ≠ 0 ∧ kindW k = x then k else kF x k
theorem kF_5 (x : ByteArray) : kF (toL x) 5 = kindN x := by
  rcases kindN_cases x with ⟨h0, h1, h2, h3, h4⟩ | ⟨h0, h1⟩ | ⟨h0, h1⟩ | ⟨h0, h1⟩ | ⟨h0, h1⟩
  · rw [h0]
    unfold kF kF kF kF kF kF
    rw [if_neg (fun h => h4 h.2.symm), if_neg (fun h => h3 h.2.symm), if_neg (fun h => h2 h.2.symm), if_neg (fun h => h1 h.2.symm), if_neg (by simp)]
  all_goals (rw [h0, h1]; decide)
set_option maxHeartbeats 4000000 in
set_option maxRecDepth 100000 in
theorem refFinding_err {wl : World} {L : List (List ByteArray)} {A : Option Addr} {c rb I : Nat} {E : Int} (W : World) (hr : RrS wl L A c rb I E W) (hs : Sl Lay.str.slice wl A L) (hL : L.length ≤ 2000000) (hsm : Hid (∀ l ∈ L, l.length ≤ 2000000 ∧ ∀ x ∈ l, x.size ≤ 2000000)) (hE : E ≠ 0) :
    Calls Tryz.prog 53 #[.pointer (some ⟨rb, 0, none⟩)] W fun e w' => FndR W.heap.size (I, E, fnd0) w' e ∧ RrS wl L A c rb I E w' ∧ W.grownBy w' (some rb) := by
  have hrl := hr.bx.lt
  have hlb := hr.lb
  generalize hW0 : W.alloc (.cells #[.int .i64 0, .string ⟨#[]⟩, .string ⟨#[]⟩, .int .i64 0, .string ⟨#[]⟩, .slice none 0 0] 46) = W1
  have bx2 : Box W1 W.heap.size zeroF 46 := by rw [← hW0]; exact Box.new _ _ _
  have hb1 : Below W.heap.size W W1 := by rw [← hW0]; exact (by repeat (first | assumption | exact Below.refl _ _ | apply bw_alloc | apply bw_drew | apply bw_drewN | apply bw_later | apply bw_step))
  have hr1 := hr.mono hb1
  have HL := Lib.hid (refLine_any ⟨#[102, 105, 110, 100, 105, 110, 103]⟩ 7 W1 hr1 hs hL hsm (by omega) (by omega))
  have tE2 : (E != 0) = true := by simpa using hE
  have HE := Lib.hid hE
  clear hE
  go_enter Tryz.func53, Tryz.ntmps53
  go_upto_region 1 with fail
  clear hW0
  go_wp2_with fail
  refine HL.out.mono ?_
  rintro e w1 (⟨_, rfl, rfl⟩ | ⟨h, _⟩ | ⟨h, _⟩)
  · obtain ⟨bxF, hgF⟩ := Box.store6 bx2 (.int .i64 0) (.string ⟨#[]⟩) (.string ⟨#[]⟩) (.int .i64 0) (.string ⟨#[]⟩) (.slice none 0 0)
    have hrF : RrS wl L A c rb I E _ := ⟨hr1.bx.grown hgF (fun e => by injection e with e; omega), hr1.bel.grown hgF hr1.bel.size (fun k hk => by injection hk with hk; subst hk; omega), hr1.lb, hr1.le⟩
    have hgF2 := grown_new (grown_below hb1 (some rb)) hgF (Nat.le_refl _)
    have r2 := hr1.bx.cell 2 rfl
    have rl := hr1.bx.lt
    have d0 := bx2.cell 0 rfl
    have d1 := bx2.cell 1 rfl
    have d2 := bx2.cell 2 rfl
    have d3 := bx2.cell 3 rfl
    have d4 := bx2.cell 4 rfl
    have d5 := bx2.cell 5 rfl
    have df := fun i => bx2.free i
    have dl := bx2.lt
    clear hr1 hgF hb1 bx2 hr
    go_wp2_with fail
    generalize World.setCell _ _ _ = W3 at *
    have z0 := bxF.cell 0 rfl
    have z1 := bxF.cell 1 rfl
    have z2 := bxF.cell 2 rfl
    have z3 := bxF.cell 3 rfl
    have z4 := bxF.cell 4 rfl
    have z5 := bxF.cell 5 rfl
    refine bodyPost_ret (v := .agg #[.int .i64 0, .string ⟨#[]⟩, .string ⟨#[]⟩, .int .i64 0, .string ⟨#[]⟩, .slice none 0 0]) (by simp [results, Tryz.results53, go_sem, z0, z1, z2, z3, z4, z5]) rfl ⟨?_, hrF, hgF2⟩
    exact ⟨⟨0, ⟨⟨#[]⟩, ⟨#[]⟩, 0⟩, ⟨#[]⟩, none, 0, 0⟩, rfl, fun h => absurd h HE.out⟩
  · exact absurd h HE.out
  · exact absurd h HE.out

/-- The last steps: the finding is copied into the result. -/
theorem copy_outQ {wl W : World} {L : List (List ByteArray)} {A : Option Addr} {c rb I : Nat} {E : Int} {b2 b3 : Nat} {r : RFnd} {w : World} (h : FQ wl W L A c rb I E b2 b3 (cellsRFnd r) w) :
    Box ((((((w.setCell ⟨b2, 0, none⟩ (.int .i64 r.kind)).setCell ⟨b2, 1, none⟩ (.string r.plc.cls)).setCell ⟨b2, 2, none⟩ (.string r.plc.mth)).setCell ⟨b2, 3, none⟩ (.int .i64 r.plc.ins)).setCell ⟨b2, 4, none⟩ (.string r.what)).setCell ⟨b2, 5, none⟩ (.slice r.A r.n r.c)) b2 (cellsRFnd r) 46 ∧
    RrS wl L A c rb I E ((((((w.setCell ⟨b2, 0, none⟩ (.int .i64 r.kind)).setCell ⟨b2, 1, none⟩ (.string r.plc.cls)).setCell ⟨b2, 2, none⟩ (.string r.plc.mth)).setCell ⟨b2, 3, none⟩ (.int .i64 r.plc.ins)).setCell ⟨b2, 4, none⟩ (.string r.what)).setCell ⟨b2, 5, none⟩ (.slice r.A r.n r.c)) ∧
    W.grownBy ((((((w.setCell ⟨b2, 0, none⟩ (.int .i64 r.kind)).setCell ⟨b2, 1, none⟩ (.string r.plc.cls)).setCell ⟨b2, 2, none⟩ (.string r.plc.mth)).setCell ⟨b2, 3, none⟩ (.int .i64 r.plc.ins)).setCell ⟨b2, 4, none⟩ (.string r.what)).setCell ⟨b2, 5, none⟩ (.slice r.A r.n r.c)) (some rb) ∧
    w.grownBy ((((((w.setCell ⟨b2, 0, none⟩ (.int .i64 r.kind)).setCell ⟨b2, 1, none⟩ (.string r.plc.cls)).setCell ⟨b2, 2, none⟩ (.string r.plc.mth)).setCell ⟨b2, 3, none⟩ (.int .i64 r.plc.ins)).setCell ⟨b2, 4, none⟩ (.string r.what)).setCell ⟨b2, 5, none⟩ (.slice r.A r.n r.c)) (some b2) := by
  obtain ⟨h1, h2⟩ := Box.store6 h.x2 (.int .i64 r.kind) (.string r.plc.cls) (.string r.plc.mth) (.int .i64 r.plc.ins) (.string r.what) (.slice r.A r.n r.c)
  have l1 := h.l1; have l2 := h.l2; have l3 := h.wlt
  exact ⟨h1, ⟨h.rd.bx.grown h2 (fun e => by injection e with e; omega), h.rd.bel.grown h2 h.rd.bel.size (fun k hk => by injection hk with hk; omega), h.rd.lb, h.rd.le⟩, grown_new h.gr h2 l2, h2⟩
set_option maxHeartbeats 16000000 in
set_option maxRecDepth 100000 in
theorem refFinding_any {wl : World} {L : List (List ByteArray)} {A : Option Addr} {c rb I : Nat} (W : World) (hr : RrS wl L A c rb I 0 W) (hs : Sl Lay.str.slice wl A L) (hL : L.length ≤ 2000000) (hsm : Hid (∀ l ∈ L, l.length ≤ 2000000 ∧ ∀ x ∈ l, x.size ≤ 2000000)) :
    Calls Tryz.prog 53 #[.pointer (some ⟨rb, 0, none⟩)] W fun e w' => FndR W.heap.size (findP L I) w' e ∧ RrS wl L A c rb (findP L I).1 (findP L I).2.1 w' ∧ W.grownBy w' (some rb) := by
  have hrl := hr.bx.lt
  have hlb := hr.lb
  obtain ⟨T, HT⟩ : ∃ T, Hid (T = findP L I) := ⟨_, Lib.hid rfl⟩
  rw [← HT.out]
  generalize hW0 : W.alloc (.cells #[.int .i64 0, .string ⟨#[]⟩, .string ⟨#[]⟩, .int .i64 0, .string ⟨#[]⟩, .slice none 0 0] 46) = W1
  have bx2 : Box W1 W.heap.size zeroF 46 := by rw [← hW0]; exact Box.new _ _ _
  have hz1 : W1.heap.size = W.heap.size + 1 := by rw [← hW0]; simp
  have hb1 : Below W.heap.size W W1 := by rw [← hW0]; exact (by repeat (first | assumption | exact Below.refl _ _ | apply bw_alloc | apply bw_drew | apply bw_drewN | apply bw_later | apply bw_step))
  have hr1 := hr.mono hb1
  have hgr1 : W.grownBy W1 (some rb) := grown_below hb1 _
  have HL := Lib.hid (refLine_any ⟨#[102, 105, 110, 100, 105, 110, 103]⟩ 7 W1 hr1 hs hL hsm (by omega) (by omega))
  rw [show toL (⟨#[102, 105, 110, 100, 105, 110, 103]⟩ : ByteArray) = wFnd from rfl] at HL
  clear hb1
  go_enter Tryz.func53, Tryz.ntmps53
  go_upto_region 1 with fail
  clear hW0
  go_wp2_with fail
  refine HL.out.mono ?_
  rintro e w1 (⟨h0, _⟩ | ⟨_, hw, rfl, hr2, hg2⟩ | ⟨_, hw, A3, c3, l, hl, hmem, hl7, rfl, hsl, hr2, hg2⟩)
  · exact absurd rfl h0
  · have HTE : Hid (T = (I, (wordsP L I wFnd 7).1, fnd0)) := by show _ = _; rw [HT.out]; unfold findP; rw [if_neg hw]
    generalize (wordsP L I wFnd 7).1 = q at *
    have tq : (q != 0) = true := by simpa using hw
    have HC := Lib.hid hw
    have bx2' := bx2.grown hg2 (fun e => by injection e with e; omega)
    obtain ⟨bxF, hgF⟩ := Box.store6 bx2' (.int .i64 0) (.string ⟨#[]⟩) (.string ⟨#[]⟩) (.int .i64 0) (.string ⟨#[]⟩) (.slice none 0 0)
    have hrF : RrS wl L A c rb I q _ := ⟨hr2.bx.grown hgF (fun e => by injection e with e; omega), hr2.bel.grown hgF hr2.bel.size (fun k hk => by injection hk with hk; omega), hr2.lb, hr2.le⟩
    have hgF2 := grown_new (grown_trans hgr1 hg2) hgF (Nat.le_refl _)
    have r2 := hr2.bx.cell 2 rfl
    have rl := hr2.bx.lt
    have d0 := bx2'.cell 0 rfl
    have d1 := bx2'.cell 1 rfl
    have d2 := bx2'.cell 2 rfl
    have d3 := bx2'.cell 3 rfl
    have d4 := bx2'.cell 4 rfl
    have d5 := bx2'.cell 5 rfl
    have df := fun i => bx2'.free i
    have dl := bx2'.lt
    clear hg2 hr2 hgF hr1 hgr1 bx2 hz1 hw HT hr
    go_wp2_with fail
    generalize World.setCell _ _ _ = W3 at *
    have z0 := bxF.cell 0 rfl
    have z1 := bxF.cell 1 rfl
    have z2 := bxF.cell 2 rfl
    have z3 := bxF.cell 3 rfl
    have z4 := bxF.cell 4 rfl
    have z5 := bxF.cell 5 rfl
    refine bodyPost_ret (v := .agg #[.int .i64 0, .string ⟨#[]⟩, .string ⟨#[]⟩, .int .i64 0, .string ⟨#[]⟩, .slice none 0 0]) (by simp [results, Tryz.results53, go_sem, z0, z1, z2, z3, z4, z5]) rfl ⟨?_, by rw [HTE.out]; exact hrF, hgF2⟩
    rw [HTE.out]
    exact ⟨⟨0, ⟨⟨#[]⟩, ⟨#[]⟩, 0⟩, ⟨#[]⟩, none, 0, 0⟩, rfl, fun h => absurd h HC.out⟩
  have hsz := (hsm.out l hmem).2
  obtain ⟨x0, x1, x2, x3, x4, x5, x6, rfl⟩ := list7 hl7
  have HTE : Hid (T = if kindN x1 = 0 then (I, 2, fnd0) else match numP x4, numP x6 with | some a, some n => fndOf L I [x0, x1, x2, x3, x4, x5, x6] a n | _, _ => (I, 2, fnd0)) := by
    show _ = _
    rw [HT.out]
    unfold findP
    rw [if_pos hw, hl]
    rfl
  have s1 := hsz x1 (by simp)
  have s4 := hsz x4 (by simp)
  have s6 := hsz x6 (by simp)
  obtain ⟨bw, ow, rfl, hbw, -⟩ := hsl.str_at (i := 0) (by simp)
  have HG := Lib.hid (fun i x h => hsl.str_get i (x := x) h)
  have bx2' := bx2.grown hg2 (fun e => by injection e with e; omega)
  have hgr2 := grown_trans hgr1 hg2
  clear hw hl hl7 hsz HT hsl bx2 hr1 hgr1 hr hg2 HL hmem
  have r2 := hr2.bx.cell 2 rfl
  have rl := hr2.bx.lt
  have hbw1 : bw < w1.heap.size := Nat.lt_of_lt_of_le hbw hr2.bel.size
  go_wp2_with fail
  have hcS : ∀ w', Below wl.heap.size wl w' → w'.cell? ⟨bw, ow + 2, none⟩ = some (.string x2) ∧ w'.cell? ⟨bw, ow + 3, none⟩ = some (.string x3) ∧ w'.cell? ⟨bw, ow + 5, none⟩ = some (.string x5) := fun w' h => by
    rw [h.cell (p := ⟨bw, ow + 2, none⟩) hbw, h.cell (p := ⟨bw, ow + 3, none⟩) hbw, h.cell (p := ⟨bw, ow + 5, none⟩) hbw]
    exact ⟨HG.out 2 x2 rfl, HG.out 3 x3 rfl, HG.out 5 x5 rfl⟩
  refine wp_region_RC (S := fun w' => w'.cell? ⟨bw, ow + 2, none⟩ = some (.string x2) ∧ w'.cell? ⟨bw, ow + 3, none⟩ = some (.string x3) ∧ w'.cell? ⟨bw, ow + 5, none⟩ = some (.string x5)) 12 (by kernel_rfl) (hcS _ (below_step hr2.bel (by exact (by repeat (first | assumption | exact Below.refl _ _ | apply bw_alloc | apply bw_drew | apply bw_drewN | apply bw_later | apply bw_step))))) (by kernel_rfl) ?_
  have hrd := hr2.mono (show Below w1.heap.size w1 w1.drew by exact (by repeat (first | assumption | exact Below.refl _ _ | apply bw_alloc | apply bw_drew | apply bw_drewN | apply bw_later | apply bw_step)))
  have bxd := bx2'.mono (show Below w1.heap.size w1 w1.drew by exact (by repeat (first | assumption | exact Below.refl _ _ | apply bw_alloc | apply bw_drew | apply bw_drewN | apply bw_later | apply bw_step)))
  have hgd := grown_later hgr2 (show Below w1.heap.size w1 w1.drew by exact (by repeat (first | assumption | exact Below.refl _ _ | apply bw_alloc | apply bw_drew | apply bw_drewN | apply bw_later | apply bw_step)))
  generalize World.drew w1 = wd at *
  clear bx2' hgr2 r2 rl hbw1 hr2
  have hsome : Nonempty (Held (fun w' : World => w'.cell? ⟨bw, ow + 2, none⟩ = some (.string x2) ∧ w'.cell? ⟨bw, ow + 3, none⟩ = some (.string x3) ∧ w'.cell? ⟨bw, ow + 5, none⟩ = some (.string x5))) := ⟨⟨wd, hcS wd hrd.bel⟩⟩
  have hh : ∀ x : Held (fun w' : World => w'.cell? ⟨bw, ow + 2, none⟩ = some (.string x2) ∧ w'.cell? ⟨bw, ow + 3, none⟩ = some (.string x3) ∧ w'.cell? ⟨bw, ow + 5, none⟩ = some (.string x5)), x.W.cell? ⟨bw, ow + 2, none⟩ = some (.string x2) ∧ x.W.cell? ⟨bw, ow + 3, none⟩ = some (.string x3) ∧ x.W.cell? ⟨bw, ow + 5, none⟩ = some (.string x5) := fun x => x.h
  have q2 := fun x => (hh x).1
  have q3 := fun x => (hh x).2.1
  have q5 := fun x => (hh x).2.2
  have ql := fun x => cell_lt (hh x).1
  clear hh
  refine RC.chunk (f := 1) [0, 1, 2, 3, 4, 5, 6, 7, 8, 9, 10] (by kernel_rfl) ?_
  ((simp only [pickOps, List.filterMap, List.getElem?_toArray, List.getElem?_cons_zero, List.getElem?_cons_succ]); (repeat (go_big_quiet_step (fail))); refine wpQuiet_nil ?_)
  clear q2 q3 q5 ql
  refine RC.single 11 rfl (by kernel_rfl) (by omega) ?_
  intro K2 hK2
  go_wp2_with fail
  refine hK2 _ _ (hcS _ (below_step hrd.bel (by exact (by repeat (first | assumption | exact Below.refl _ _ | apply bw_alloc | apply bw_drew | apply bw_drewN | apply bw_later | apply bw_step))))) ?_
  clear hK2 hsome
  refine RC.tail (by kernel_rfl) ?_
  simp only [List.drop_succ_cons, List.drop_zero]
  have hF1 : FQ wl W L A c rb (I + 1) 0 W.heap.size wd.heap.size [.int .i64 0, .string x2, .string x3, .int .i64 0, .string x5, .slice none 0 0] (wd.alloc (.cells #[.int .i64 0, .string x2, .string x3, .int .i64 0, .string x5, .slice none 0 0] 46)) :=
    ⟨hrd.mono (by exact (by repeat (first | assumption | exact Below.refl _ _ | apply bw_alloc | apply bw_drew | apply bw_drewN | apply bw_later | apply bw_step))), bxd.alloc _, Box.new _ _ _, grown_later hgd (by exact (by repeat (first | assumption | exact Below.refl _ _ | apply bw_alloc | apply bw_drew | apply bw_drewN | apply bw_later | apply bw_step))), hrl, Nat.le_refl _, bxd.lt⟩
  go_upto_region 5 with fail
  generalize World.alloc wd _ = w2 at *
  clear hrd bxd hgd hcS
  generalize wd.heap.size = b3 at *
  go_wp2_with fail
  go_loopw [5] (fun v5 wr => ∃ (k : Nat) (q : Int), 1 ≤ k ∧ k ≤ 5 ∧ v5 = .int .i64 k ∧ Hid (q = kF (toL x1) k) ∧ FQ wl W L A c rb (I + 1) 0 W.heap.size b3 [.int .i64 q, .string x2, .string x3, .int .i64 0, .string x5, .slice none 0 0] wr) (fun v5 _ => 6 - (intOf v5).toNat)
  case atStart => exact ⟨1, 0, by omega, by omega, rfl, Lib.hid rfl, hF1⟩
  case round =>
    clear hF1
    obtain ⟨k, q, hk1, hk5, rfl, HQ, hF⟩ := hrel
    by_cases hk : k ≤ 4
    · have hki : (k : Int) ≤ 4 := by omega
      have d1 := hF.cl hbw (HG.out 1 x1 rfl)
      have hb1 := hF.blt hbw
      have HKN : Hid (∀ z : Later wr, Calls Tryz.prog 71 #[.int .i64 k] z.W fun e w'' => e = .returned (.string (bsOf (kindW k))) ∧ ∃ y : Later wr, w'' = y.W) := fun z => Calls.later_same (refKind_any k z.W)
      have HKF : Hid (kF (toL x1) (k + 1) = if kindW k = toL x1 then (k : Int) else kF (toL x1) k) := by
        show _ = _
        rw [kF]
        by_cases h : kindW k = toL x1
        · rw [if_pos ⟨by omega, h⟩, if_pos h]
        · rw [if_neg (fun h2 => h h2.2), if_neg h]
      have HEQ : Hid (((bsOf (kindW k)).toList == x1.toList) = decide (kindW k = toL x1)) := by
        show _ = _
        rw [ByteArray.toList_eq, ByteArray.toList_eq]
        show (kindW k == toL x1) = _
        by_cases h : kindW k = toL x1
        · rw [decide_eq_true h]; simpa using h
        · rw [decide_eq_false h]; simpa using h
      obtain ⟨D, HDD⟩ : ∃ D, Hid (D = bsOf (kindW k)) := ⟨_, Lib.hid rfl⟩
      rw [← HDD.out] at HKN HEQ
      clear HDD
      by_cases hm : kindW k = toL x1
      · have HQ2 : Hid ((k : Int) = kF (toL x1) (k + 1)) := by show _ = _; rw [HKF.out, if_pos hm]
        have t1 : (D.toList == x1.toList) = true := by rw [HEQ.out, decide_eq_true hm]
        clear hm HEQ HKF HQ
        go_wp2_with fail
        refine wp_region_later (by kernel_rfl) (by kernel_rfl) ?_
        repeat (go_big_quiet_step ((go_at_call 71; exact HKN.out _)))
        refine wpQuiet_nil ?_
        rintro _ ⟨z, rfl⟩
        have hF2 := hF.mono z.h
        clear hF d1 hb1 HKN
        have f0 := hF2.x3.cell 0 rfl
        have ff := hF2.x3.free 0
        have fl := hF2.x3.lt
        have hF3 : FQ wl W L A c rb (I + 1) 0 W.heap.size b3 [.int .i64 k, .string x2, .string x3, .int .i64 0, .string x5, .slice none 0 0] _ := hF2.set 0 (.int .i64 k)
        go_wp2_with fail
        go_roundw
        case rel => exact ⟨k + 1, k, by omega, by omega, by go_num, HQ2, hF3⟩
        case measure => simp [intOf]; omega
      · have HQ2 : Hid (q = kF (toL x1) (k + 1)) := by show _ = _; rw [HKF.out, if_neg hm]; exact HQ.out
        have t1 : (D.toList == x1.toList) = false := by rw [HEQ.out, decide_eq_false hm]
        clear hm HEQ HKF HQ
        go_wp2_with fail
        refine wp_region_later (by kernel_rfl) (by kernel_rfl) ?_
        repeat (go_big_quiet_step ((go_at_call 71; exact HKN.out _)))
        refine wpQuiet_nil ?_
        rintro _ ⟨z, rfl⟩
        have hF2 := hF.mono z.h
        clear hF d1 hb1 HKN
        go_wp2_with fail
        go_roundw
        case rel => exact ⟨k + 1, q, by omega, by omega, by go_num, HQ2, hF2⟩
        case measure => simp [intOf]; omega
    obtain rfl : k = 5 := by omega
    have HQ5 : Hid (q = kindN x1) := by show _ = _; rw [HQ.out, kF_5]
    clear HQ hk hk1 hk5
    by_cases hq : q = 0
    · have HTQ : Hid (T = (I, 2, fnd0)) := by show _ = _; rw [HTE.out, if_pos (by rw [← HQ5.out]; exact hq)]
      subst hq
      have f0 := hF.x3.cell 0 rfl
      have fl := hF.x3.lt
      have r1 := hF.rd.bx.cell 1 rfl
      have r2 := hF.rd.bx.cell 2 rfl
      have rf := fun i => hF.rd.bx.free i
      have rl := hF.rd.bx.lt
      have hle := hF.rd.le
      have hIb : (I : Int) ≤ 2000000 := by omega
      have hgS := grown_set2 wr rb 2 1 (.int .i64 2) (.int .i64 (I : Int))
      have hF2 : FQ wl W L A c rb I 2 W.heap.size b3 [.int .i64 0, .string x2, .string x3, .int .i64 0, .string x5, .slice none 0 0] ((wr.setCell ⟨rb, 2, none⟩ (.int .i64 2)).setCell ⟨rb, 1, none⟩ (.int .i64 (I : Int))) := hF.turn ⟨by
        have h2 := (hF.rd.bx.set 2 (.int .i64 2)).set 1 (.int .i64 (I : Int))
        exact h2, hF.rd.bel.grown hgS hF.rd.bel.size (fun k hk => by injection hk with hk; subst hk; exact hF.rd.lb), hF.rd.lb, by omega⟩ hgS
      have hI1 : ((I + 1 : Nat) : Int) - 1 = (I : Int) := by omega
      clear hF hgS HTE HQ5
      go_upto_region 13 with fail
      generalize World.setCell _ _ _ = w3 at *
      obtain ⟨bxF, hgF⟩ := Box.store6 hF2.x2 (.int .i64 0) (.string ⟨#[]⟩) (.string ⟨#[]⟩) (.int .i64 0) (.string ⟨#[]⟩) (.slice none 0 0)
      have l1 := hF2.l1; have l2 := hF2.l2; have l3 := hF2.wlt
      have hrF : RrS wl L A c rb I 2 _ := ⟨hF2.rd.bx.grown hgF (fun e => by injection e with e; omega), hF2.rd.bel.grown hgF hF2.rd.bel.size (fun k hk => by injection hk with hk; omega), hF2.rd.lb, hF2.rd.le⟩
      have hgF2 := grown_new hF2.gr hgF (Nat.le_refl _)
      clear f0 fl r1 r2 rf rl hgF
      have d0 := hF2.x2.cell 0 rfl
      have d1 := hF2.x2.cell 1 rfl
      have d2 := hF2.x2.cell 2 rfl
      have d3 := hF2.x2.cell 3 rfl
      have d4 := hF2.x2.cell 4 rfl
      have d5 := hF2.x2.cell 5 rfl
      have df := fun i => hF2.x2.free i
      have dl := hF2.x2.lt
      clear hF2
      go_wp2_with fail
      generalize World.setCell _ _ _ = W3 at *
      have z0 := bxF.cell 0 rfl
      have z1 := bxF.cell 1 rfl
      have z2 := bxF.cell 2 rfl
      have z3 := bxF.cell 3 rfl
      have z4 := bxF.cell 4 rfl
      have z5 := bxF.cell 5 rfl
      refine bodyPost_ret (v := .agg #[.int .i64 0, .string ⟨#[]⟩, .string ⟨#[]⟩, .int .i64 0, .string ⟨#[]⟩, .slice none 0 0]) (by simp [results, Tryz.results53, go_sem, z0, z1, z2, z3, z4, z5]) rfl ⟨?_, by rw [HTQ.out]; exact hrF, hgF2⟩
      rw [HTQ.out]
      exact ⟨⟨0, ⟨⟨#[]⟩, ⟨#[]⟩, 0⟩, ⟨#[]⟩, none, 0, 0⟩, rfl, fun h => by cases h⟩
    rw [if_neg (by rw [← HQ5.out]; exact hq)] at HTE
    have tq : (q == 0) = false := by simpa using hq
    clear hq
    have f0 := hF.x3.cell 0 rfl
    have fl := hF.x3.lt
    have d4 := hF.cl hbw (HG.out 4 x4 rfl)
    have hb4 := hF.blt hbw
    go_wp2_with fail
    refine (refNum_any x4 _ hF.rd (fun _ => by omega) hL s4).mono ?_
    rintro e w4 ⟨ka, J4, E4, rfl, hr4, hg4, hn4⟩
    have hF4 := hF.turn hr4 hg4
    clear hF hr4 hg4 f0 fl d4 hb4
    have f3 := hF4.x3.cell 3 rfl
    have ff := hF4.x3.free 3
    have fl := hF4.x3.lt
    have hF5 : FQ wl W L A c rb J4 E4 W.heap.size b3 [.int .i64 q, .string x2, .string x3, .int .i64 ka, .string x5, .slice none 0 0] _ := hF4.set 3 (.int .i64 ka)
    go_upto_region 15 with fail
    generalize World.setCell _ _ _ = w5 at *
    clear hF4 f3 ff fl
    have d6 := hF5.cl hbw (HG.out 6 x6 rfl)
    have hb6 := hF5.blt hbw
    go_wp2_with fail
    refine (refNum_any x6 _ hF5.rd (fun h => by omega) hL s6).mono ?_
    rintro e w6 ⟨kb, J6, E6, rfl, hr6, hg6, hn6⟩
    have hF6 := hF5.turn hr6 hg6
    obtain ⟨n0, V, rfl, hn01, HV, HTV⟩ : ∃ (n0 : Nat) (V : Nat × Int × List Plc), kb = n0 ∧ n0 ≤ 1000000 ∧ Hid ((E6 = 0 ∧ viasP L n0 J6 [] = V) ∨ (E6 ≠ 0 ∧ V.1 = J6 ∧ V.2.1 = E6)) ∧ Hid (T.1 = V.1 ∧ T.2.1 = V.2.1 ∧ (V.2.1 = 0 → T.2.2 = ⟨kindN x1, ⟨x2, x3, ka⟩, x5, V.2.2⟩)) := by
      have HT2 := HTE.out
      rcases hn4 with ⟨_, a1, a2, a3⟩ | ⟨_, a1, a2, a3, a4⟩ | ⟨h, _⟩
      · rw [a1] at HT2
        rcases hn6 with ⟨_, b1, b2, b3⟩ | ⟨_, b1, b2, b3, b4⟩ | ⟨h, _⟩
        · rw [b1] at HT2
          have hb := numP_iff.1 b1
          refine ⟨kb.toNat, viasP L kb.toNat (I + 1) [], by omega, by omega, Or.inl ⟨b2, by rw [b3, a3]⟩, ?_⟩
          show _ ∧ _ ∧ _
          rw [HT2]
          exact ⟨rfl, rfl, fun _ => rfl⟩
        · rw [b1] at HT2
          refine ⟨0, (I, 2, []), by omega, by omega, Or.inr ⟨by omega, by show I = J6; omega, by show (2 : Int) = E6; omega⟩, ?_⟩
          show _ ∧ _ ∧ _
          rw [HT2]
          exact ⟨rfl, rfl, fun h => by cases h⟩
        · exact absurd a2 h
      · rw [a1] at HT2
        rcases hn6 with ⟨h, _⟩ | ⟨h, _⟩ | ⟨_, b1, b2, b3⟩
        · omega
        · omega
        · refine ⟨0, (I, 2, []), by omega, by omega, Or.inr ⟨by omega, by show I = J6; omega, by show (2 : Int) = E6; omega⟩, ?_⟩
          show _ ∧ _ ∧ _
          rw [HT2]
          exact ⟨rfl, rfl, fun h => by cases h⟩
      · exact absurd rfl h
    clear hF5 hr6 hg6 hn4 hn6 d6 hb6 HTE s1 s4 s6 HG hbw
    go_wp2_with fail
    go_loopw [7] (fun v7 wr => ∃ (i J : Nat) (E : Int) (acc : List Plc) (v : Value), v7 = .int .i64 i ∧ i ≤ n0 ∧ FQ wl W L A c rb J E W.heap.size b3 [.int .i64 q, .string x2, .string x3, .int .i64 ka, .string x5, v] wr ∧ Own cellsPlc 3 W.heap.size 43 wr v acc ∧ Hid ((E = 0 ∧ viasP L (n0 - i) J acc = V) ∨ (E ≠ 0 ∧ V.1 = J ∧ V.2.1 = E)) ∧ acc.length ≤ i) (fun v7 _ => n0 - (intOf v7).toNat)
    case atStart => exact ⟨0, J6, E6, [], .slice none 0 0, rfl, Nat.zero_le _, hF6, Own.nil, HV.out, Nat.le_refl _⟩
    case round =>
      clear hF6 HV
      obtain ⟨i, J, E, acc, v, rfl, hi0, hF, ho, HV2, hacc⟩ := hrel
      by_cases ht : i < n0 ∧ E = 0
      · obtain ⟨hi, rfl⟩ := ht
        have HV3 : Hid (viasP L ((n0 - (i + 1)) + 1) J acc = V) := by
          rcases HV2.out with ⟨_, h⟩ | ⟨h, _⟩
          · rw [show n0 - i = (n0 - (i + 1)) + 1 by omega] at h
            exact h
          · exact absurd rfl h
        clear HV2
        have r2 := hF.rd.bx.cell 2 rfl
        have rl := hF.rd.bx.lt
        have HW := Lib.hid (refLine_any ⟨#[118, 105, 97]⟩ 4 wr hF.rd hs hL hsm (by omega) (by omega))
        rw [show toL (⟨#[118, 105, 97]⟩ : ByteArray) = wVia from rfl] at HW
        have hii : (i : Int) < (n0 : Int) := by omega
        go_wp2_with fail
        refine HW.out.mono ?_
        rintro e w2 (⟨h0, _⟩ | ⟨_, hw, rfl, hr2, hg2⟩ | ⟨_, hw, A3', c3', l, hl, hmem, hl4, rfl, hsl, hr2, hg2⟩)
        · exact absurd rfl h0
        · have HVE : Hid (V = (J, (wordsP L J wVia 4).1, acc)) := by
            show _ = _
            rw [← HV3.out]
            unfold viasP
            rw [if_neg hw]
          generalize (wordsP L J wVia 4).1 = cc at *
          have tc : (cc == 0) = false := by simpa using hw
          have HC := Lib.hid hw
          have hF2 := hF.turn hr2 hg2
          have ho2 := ho.kept_box hF.rd.bx (by decide) hg2
          clear hw HV3 r2 rl hF ho hr2 hg2 HW
          have r2 := hF2.rd.bx.cell 2 rfl
          have rl := hF2.rd.bx.lt
          go_wp2_with fail
          go_roundw
          case rel => exact ⟨i + 1, J, cc, acc, v, by go_num, by omega, hF2, ho2, Lib.hid (Or.inr ⟨HC.out, by rw [HVE.out], by rw [HVE.out]⟩), by omega⟩
          case measure => simp [intOf]; omega
        have hsz := (hsm.out l hmem).2
        obtain ⟨y0, y1, y2, y3, rfl⟩ := list4 hl4
        have HVE : Hid (V = match numP y3 with | some a => viasP L (n0 - (i + 1)) (J + 1) (acc ++ [⟨y1, y2, a⟩]) | none => (J, 2, acc)) := by
          show _ = _
          rw [← HV3.out]
          rw [viasP, if_pos hw, hl]
          rfl
        have s3 := hsz y3 (by simp)
        obtain ⟨bv, ov, rfl, hbv, -⟩ := hsl.str_at (i := 0) (by simp)
        have HGV := Lib.hid (fun i x h => hsl.str_get i (x := x) h)
        have hF2 := hF.turn hr2 hg2
        have ho2 := ho.kept_box hF.rd.bx (by decide) hg2
        clear hw hl hl4 hsz hsl HV3 r2 rl hF ho hr2 hg2 HW hmem
        have r2 := hF2.rd.bx.cell 2 rfl
        have rl := hF2.rd.bx.lt
        go_wp2_with fail
        have hcS : ∀ w', Below wl.heap.size wl w' → w'.cell? ⟨bv, ov + 1, none⟩ = some (.string y1) ∧ w'.cell? ⟨bv, ov + 2, none⟩ = some (.string y2) := fun w' h => by
          rw [h.cell (p := ⟨bv, ov + 1, none⟩) hbv, h.cell (p := ⟨bv, ov + 2, none⟩) hbv]
          exact ⟨HGV.out 1 y1 rfl, HGV.out 2 y2 rfl⟩
        refine wp_region_RC (S := fun w' => w'.cell? ⟨bv, ov + 1, none⟩ = some (.string y1) ∧ w'.cell? ⟨bv, ov + 2, none⟩ = some (.string y2)) 8 (by kernel_rfl) (hcS _ (below_step hF2.rd.bel (by exact (by repeat (first | assumption | exact Below.refl _ _ | apply bw_alloc | apply bw_drew | apply bw_drewN | apply bw_later | apply bw_step))))) (by kernel_rfl) ?_
        have hF3 := hF2.mono (show Below w2.heap.size w2 w2.drew by exact (by repeat (first | assumption | exact Below.refl _ _ | apply bw_alloc | apply bw_drew | apply bw_drewN | apply bw_later | apply bw_step)))
        have ho3 := ho2.mono (show Below w2.heap.size w2 w2.drew by exact (by repeat (first | assumption | exact Below.refl _ _ | apply bw_alloc | apply bw_drew | apply bw_drewN | apply bw_later | apply bw_step)))
        generalize World.drew w2 = wd at *
        clear hF2 ho2 r2 rl
        have hsome : Nonempty (Held (fun w' : World => w'.cell? ⟨bv, ov + 1, none⟩ = some (.string y1) ∧ w'.cell? ⟨bv, ov + 2, none⟩ = some (.string y2))) := ⟨⟨wd, hcS wd hF3.rd.bel⟩⟩
        have hh : ∀ x : Held (fun w' : World => w'.cell? ⟨bv, ov + 1, none⟩ = some (.string y1) ∧ w'.cell? ⟨bv, ov + 2, none⟩ = some (.string y2)), x.W.cell? ⟨bv, ov + 1, none⟩ = some (.string y1) ∧ x.W.cell? ⟨bv, ov + 2, none⟩ = some (.string y2) := fun x => x.h
        have q1 := fun x => (hh x).1
        have q2 := fun x => (hh x).2
        have ql := fun x => cell_lt (hh x).1
        clear hh
        refine RC.chunk (f := 1) [0, 1, 2, 3, 4, 5, 6] (by kernel_rfl) ?_
        ((simp only [pickOps, List.filterMap, List.getElem?_toArray, List.getElem?_cons_zero, List.getElem?_cons_succ]); (repeat (go_big_quiet_step (fail))); refine wpQuiet_nil ?_)
        clear q1 q2 ql
        refine RC.single 7 rfl (by kernel_rfl) (by omega) ?_
        intro K2 hK2
        go_wp2_with fail
        refine hK2 _ _ (hcS _ (below_step hF3.rd.bel (by exact (by repeat (first | assumption | exact Below.refl _ _ | apply bw_alloc | apply bw_drew | apply bw_drewN | apply bw_later | apply bw_step))))) ?_
        clear hK2 hsome
        refine RC.tail (by kernel_rfl) ?_
        simp only [List.drop_succ_cons, List.drop_zero]
        have hbd : Below wd.heap.size wd (wd.alloc (.cells #[.string y1, .string y2, .int .i64 0] 43)) := by exact (by repeat (first | assumption | exact Below.refl _ _ | apply bw_alloc | apply bw_drew | apply bw_drewN | apply bw_later | apply bw_step))
        have hF4 := hF3.mono hbd
        have ho4 := ho3.mono hbd
        have bx4 := Box.new wd [.string y1, .string y2, .int .i64 0] 43
        have hob : ∀ k, v.ownBlock = some k → k < wd.heap.size := fun k hk => (World.ownsRow.lt ho3 k hk).2
        have hb3l : b3 < wd.heap.size := hF3.x3.lt
        have hrbl : rb < wd.heap.size := hF3.rd.bx.lt
        have hb2l : W.heap.size < wd.heap.size := hF3.x2.lt
        go_upto_region 22 with fail
        generalize World.alloc wd _ = w3 at *
        generalize wd.heap.size = b9 at *
        clear hF3 ho3 hbd
        have e3 := hF4.cl hbv (HGV.out 3 y3 rfl)
        have hb3' := hF4.blt hbv
        have g2 := bx4.cell 2 rfl
        have gl := bx4.lt
        go_wp2_with fail
        refine (refNum_any y3 _ hF4.rd (fun _ => by omega) hL s3).mono ?_
        rintro e w4 ⟨k, J', E', rfl, hr4, hg4, hn4⟩
        have hF5 := hF4.turn hr4 hg4
        have ho5 := ho4.kept_box hF4.rd.bx (by decide) hg4
        have bx5 := bx4.grown hg4 (fun e => by injection e with e; omega)
        have HN4 := Lib.hid hn4
        clear hF4 ho4 bx4 hr4 hg4 e3 hb3' g2 gl hn4
        have g2 := bx5.cell 2 rfl
        have gf := bx5.free 2
        have gl := bx5.lt
        have hgS := grown_set w4 b9 2 (.int .i64 k)
        have hl2 := hF5.l2
        have hl3 := hF5.wlt
        have hF6 : FQ wl W L A c rb J' E' W.heap.size b3 [.int .i64 q, .string x2, .string x3, .int .i64 ka, .string x5, v] (w4.setCell ⟨b9, 2, none⟩ (.int .i64 k)) :=
          ⟨⟨hF5.rd.bx.setOther (by show b9 ≠ rb; omega) _, bw_setCell hF5.rd.bel (by show wl.heap.size ≤ b9; omega), hF5.rd.lb, hF5.rd.le⟩, hF5.x2.setOther (by show b9 ≠ W.heap.size; omega) _, hF5.x3.setOther (by show b9 ≠ b3; omega) _, grown_new hF5.gr hgS (by omega), hF5.l1, hF5.l2, hF5.l3⟩
        have ho6 := ho5.kept hgS (fun b hb he => by
          injection hb with hb
          have := hob b he
          omega)
        have bx6 : Box _ b9 [.string y1, .string y2, .int .i64 k] 43 := bx5.set 2 (.int .i64 k)
        go_upto_region 23 with fail
        generalize World.setCell _ _ _ = w5 at *
        clear hF5 ho5 bx5 g2 gf gl hgS
        have f5 := hF6.x3.cell 5 rfl
        have fl := hF6.x3.lt
        have g0 := bx6.cell 0 rfl
        have g1 := bx6.cell 1 rfl
        have g2 := bx6.cell 2 rfl
        have gl := bx6.lt
        have hbe : Below w5.heap.size w5 (w5.alloc (.cells #[.string y1, .string y2, .int .i64 k] 43)) := by exact (by repeat (first | assumption | exact Below.refl _ _ | apply bw_alloc | apply bw_drew | apply bw_drewN | apply bw_later | apply bw_step))
        have hF7 := hF6.mono hbe
        have ho7 := ho6.mono hbe
        have bx7 := Box.new w5 [.string y1, .string y2, .int .i64 k] 43
        have hz7 : W.heap.size ≤ (w5.alloc (.cells #[.string y1, .string y2, .int .i64 k] 43)).heap.size := hF7.gr.size
        have HACC : Hid ((acc ++ [(⟨y1, y2, k⟩ : Plc)]).length = acc.length + 1) := by show _ = _; rw [List.length_append]; rfl
        clear hbe
        have HREL : Hid ((E' = 0 ∧ viasP L (n0 - (i + 1)) J' (acc ++ [(⟨y1, y2, k⟩ : Plc)]) = V) ∨ (E' ≠ 0 ∧ V.1 = J' ∧ V.2.1 = E')) := by
          show _ ∨ _
          rcases HN4.out with ⟨_, a1, a2, a3⟩ | ⟨_, a1, a2, a3, a4⟩ | ⟨h, _⟩
          · refine Or.inl ⟨a2, ?_⟩
            rw [HVE.out, a1, a3]
          · refine Or.inr ⟨by omega, ?_⟩
            rw [HVE.out, a1]
            exact ⟨by show J = J'; omega, by show (2 : Int) = E'; omega⟩
          · exact absurd rfl h
        clear HN4 HVE s3
        go_upto_region 18 with (at_builtin; refine wpList_pushG plcsTy cellsPlc_ok rfl (.tmp 100) (.tmp 102) rfl W.heap.size v acc rfl ho7 (⟨y1, y2, k⟩ : Plc) _ _ rfl (fun j u hu => bx7.cell j hu) (by unfold maxLen; omega) (by omega) hz7 ?_; intro v' w6 ho8 hb8 hg8; obtain ⟨A6, n6, c6, rfl⟩ := own_isSl ho8; have hF8 := hF7.row ho7 (Nat.le_refl _) (by decide) (by decide) hg8; have z5 := hF8.x3.cell 5 rfl; have zf := hF8.x3.free 5; have zl := hF8.x3.lt)
        have hF9 : FQ wl W L A c rb J' E' W.heap.size b3 [.int .i64 q, .string x2, .string x3, .int .i64 ka, .string x5, .slice A6 n6 c6] _ := hF8.set 5 (.slice A6 n6 c6)
        have ho9 := ho8.kept_box hF8.x3 (by decide) (grown_set w6 b3 5 (.slice A6 n6 c6))
        generalize World.setCell _ _ _ = w7 at *
        clear hF6 hF7 hF8 ho6 ho7 ho8 bx6 bx7 hz7 hb8 hg8 z5 zf zl f5 fl g0 g1 g2 gl
        go_wp2_with fail
        go_roundw
        case rel => exact ⟨i + 1, J', E', _, _, by go_num, by omega, hF9, ho9, HREL, by rw [HACC.out]; omega⟩
        case measure => simp [intOf]; omega
      · obtain ⟨A', c', rfl, hcc, -⟩ := ho.sl (L := Lay.plc) rfl (fun _ => rfl)
        have hF5 : FQ wl W L A c rb J E W.heap.size b3 (cellsRFnd ⟨q, ⟨x2, x3, ka⟩, x5, A', acc.length, c'⟩) wr := hF
        obtain ⟨bxF, hrF, hgF, hgB⟩ := copy_outQ hF5
        have hoF := ho.kept_box hF5.x2 (by decide) hgB
        have c0 := hF5.x3.cell 0 rfl
        have c1 := hF5.x3.cell 1 rfl
        have c2 := hF5.x3.cell 2 rfl
        have c3 := hF5.x3.cell 3 rfl
        have c4 := hF5.x3.cell 4 rfl
        have c5 := hF5.x3.cell 5 rfl
        have cl := hF5.x3.lt
        have d0 := hF5.x2.cell 0 rfl
        have d1 := hF5.x2.cell 1 rfl
        have d2 := hF5.x2.cell 2 rfl
        have d3 := hF5.x2.cell 3 rfl
        have d4 := hF5.x2.cell 4 rfl
        have d5 := hF5.x2.cell 5 rfl
        have df := fun i => hF5.x2.free i
        have r2 := hF5.rd.bx.cell 2 rfl
        have rl := hF5.rd.bx.lt
        have HTF : Hid (T.1 = J ∧ T.2.1 = E ∧ (E = 0 → T.2.2 = ⟨kindN x1, ⟨x2, x3, ka⟩, x5, acc⟩)) := by
          show _ ∧ _ ∧ _
          obtain ⟨t1, t2, t3⟩ := HTV.out
          rcases HV2.out with ⟨e1, e2⟩ | ⟨e1, e2, e3⟩
          · have hm0 : i = n0 := by
              rcases Nat.lt_or_ge i n0 with h | h
              · exact absurd ⟨h, e1⟩ ht
              · omega
            subst hm0
            rw [Nat.sub_self] at e2
            have e4 : V = (J, 0, acc) := e2.symm
            rw [e4] at t1 t2 t3
            exact ⟨t1, by rw [t2, e1], fun _ => t3 rfl⟩
          · exact ⟨t1.trans e2, t2.trans e3, fun h => absurd h e1⟩
        have HPF : Hid (∀ W3, Own cellsPlc 3 W.heap.size 43 W3 (.slice A' acc.length c') acc → T.2.1 = 0 → RowF W.heap.size W3 ⟨q, ⟨x2, x3, ka⟩, x5, A', acc.length, c'⟩ T.2.2) := fun W3 ho h => by
          have h1 := HTF.out.2.2 (by rw [← HTF.out.2.1]; exact h)
          rw [h1]
          exact ⟨HQ5.out, rfl, rfl, ho⟩
        clear hF5 hF ho HV2 hcc hgB
        by_cases hm : i < n0
        · have hE0 : (E == 0) = false := by rw [beq_eq_false_iff_ne]; exact fun h => ht ⟨hm, h⟩
          have hm1 : (i : Int) < (n0 : Int) := by omega
          go_wp2_with fail
          generalize World.setCell _ _ _ = W3 at *
          have z0 := bxF.cell 0 rfl
          have z1 := bxF.cell 1 rfl
          have z2 := bxF.cell 2 rfl
          have z3 := bxF.cell 3 rfl
          have z4 := bxF.cell 4 rfl
          have z5 := bxF.cell 5 rfl
          refine bodyPost_ret (v := .agg #[.int .i64 q, .string x2, .string x3, .int .i64 ka, .string x5, .slice A' acc.length c']) (by simp [results, Tryz.results53, go_sem, z0, z1, z2, z3, z4, z5]) rfl ⟨⟨⟨q, ⟨x2, x3, ka⟩, x5, A', acc.length, c'⟩, rfl, HPF.out _ hoF⟩, by rw [HTF.out.1, HTF.out.2.1]; exact hrF, hgF⟩
        · have hm1 : ¬ (i : Int) < (n0 : Int) := by omega
          go_wp2_with fail
          generalize World.setCell _ _ _ = W3 at *
          have z0 := bxF.cell 0 rfl
          have z1 := bxF.cell 1 rfl
          have z2 := bxF.cell 2 rfl
          have z3 := bxF.cell 3 rfl
          have z4 := bxF.cell 4 rfl
          have z5 := bxF.cell 5 rfl
          refine bodyPost_ret (v := .agg #[.int .i64 q, .string x2, .string x3, .int .i64 ka, .string x5, .slice A' acc.length c']) (by simp [results, Tryz.results53, go_sem, z0, z1, z2, z3, z4, z5]) rfl ⟨⟨⟨q, ⟨x2, x3, ka⟩, x5, A', acc.length, c'⟩, rfl, HPF.out _ hoF⟩, by rw [HTF.out.1, HTF.out.2.1]; exact hrF, hgF⟩
end Go.Proofs.YtlcdnkloijehjaaGreatDoor
