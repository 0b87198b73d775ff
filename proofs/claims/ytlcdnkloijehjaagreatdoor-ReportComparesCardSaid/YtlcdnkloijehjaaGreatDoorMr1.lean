/-
  Joined (wip/merge.py): RqI, RqJ, RqK, RqL, RqM, RqN, RqO.
-/
import Derived.Test.YtlcdnkloijehjaaGreatDoorRqH
import Derived.Deep.RegionHeld3

namespace Go.Proofs.YtlcdnkloijehjaaGreatDoor
open Go.RowKit
set_option linter.unusedVariables false

/-- Where a section ends. -/
def SecEnd (Q : Nat → Nat → Int → World → Prop) (w' : World) : Prop := ∃ m J E, Q m J E w' ∧ (E = 0 → m = 0)
theorem cntP_bad {L : List (List ByteArray)} {I : Nat} {nm : List UInt8} (h : (wordsP L I nm 2).1 ≠ 0) : cntP L I nm = (I, (wordsP L I nm 2).1, 0) := by unfold cntP; rw [if_neg h]
theorem cntP_at {L : List (List ByteArray)} {I : Nat} {nm : List UInt8} {y0 y1 : ByteArray} (h : wordsP L I nm 2 = (0, [y0, y1])) : cntP L I nm = match numP y1 with | some n => (I + 1, 0, n) | none => (I, 2, 0) := by
  unfold cntP
  rw [h]
  rfl
set_option maxHeartbeats 8000000 in
set_option maxRecDepth 100000 in
theorem secRd_any {w0 : World} {s : ByteArray} {rb I : Nat} (g : FuncId) (cb : Array Value) (eg : ∀ args w, (callFunc g args).run Tryz.prog w = .ok (.enter g args) w) (nm : ByteArray) (W : World) (hg : Glp w0) (hs : s.size ≤ 1500000)
    (H0 : Nat → Int → World → Prop) (Q : Nat → Nat → Int → World → Prop)
    (hrd : Hid (∀ J E w, H0 J E w → RdS s rb J E w ∧ Below w0.heap.size w0 w)) (hmono : Hid (∀ J E w w', H0 J E w → Below w.heap.size w w' → H0 J E w')) (hturn : Hid (∀ J w J' E' w', H0 J 0 w → RdS s rb J' E' w' → w.grownBy w' (some rb) → H0 J' E' w'))
    (hok : Hid (∀ n w, cntP (linesW s) I (toL nm) = (I + 1, 0, n) → H0 (I + 1) 0 w → Q n.toNat (I + 1) 0 w)) (hbad : Hid (∀ J E w, cntP (linesW s) I (toL nm) = (J, E, 0) → E ≠ 0 → H0 J E w → Q 0 J E w))
    (hqrd : Hid (∀ m J E w, Q m J E w → RdS s rb J E w)) (hel : Hid (∀ m J w, m ≤ 1000000 → Q (m + 1) J 0 w → Calls Tryz.prog g cb w fun e w' => e = .returned (.tuple #[]) ∧ ∃ J' E', Q m J' E' w')) (h0 : H0 I 0 W) :
    Calls Tryz.prog 42 #[.pointer (some ⟨rb, 0, none⟩), .string nm, .func (.func g) #[] cb] W fun e w' => e = .returned (.tuple #[]) ∧ SecEnd Q w' := by
  obtain ⟨hr, hbw⟩ := hrd.out _ _ _ h0
  have hgW := hg.mono hbw
  have HSE : Hid (∀ w' m J E, Q m J E w' → (E = 0 → m = 0) → SecEnd Q w') := fun w' m J E h1 h2 => ⟨m, J, E, h1, h2⟩
  by_cases hw : (wordsP (linesW s) I (toL nm) 2).1 = 0
  case neg =>
    have HW := Lib.hid (words_no nm 2 W hgW hs hr hw)
    have HB := Lib.hid (fun w' => hbad.out _ _ w' (cntP_bad hw) hw)
    have HC := Lib.hid hw
    generalize (wordsP (linesW s) I (toL nm) 2).1 = c at *
    clear hw
    go_enter Tryz.func42, Tryz.ntmps42
    go_wp2_with fail
    refine HW.out.mono ?_
    rintro e w2 ⟨he, hr2, hg2⟩
    unfold RetNo at he
    subst he
    have hQ := Lib.hid (HSE.out _ _ _ _ (HB.out _ (hturn.out _ _ _ _ _ h0 hr2 hg2)) (fun _ => rfl))
    go_wp2_with fail
    ((try simp only [Exit.inBlock, Exit.then]); refine bodyPost_ret (results_none rfl _ _ _) rfl ?_)
    exact ⟨rfl, hQ.out⟩
  obtain ⟨l, hwl⟩ : ∃ l, wordsP (linesW s) I (toL nm) 2 = (0, l) := ⟨_, Prod.ext hw rfl⟩
  obtain ⟨hI, hl2, hsz, -⟩ := words_sizes hwl
  have HW := Lib.hid (words_yes nm 2 l W hgW hs hr hwl)
  obtain ⟨y0, y1, rfl⟩ := list2 hl2
  have HCT := Lib.hid (cntP_at hwl)
  have s1 := hsz y1 (by simp)
  clear hw hwl hl2 hsz
  go_enter Tryz.func42, Tryz.ntmps42
  go_wp2_with fail
  refine HW.out.mono ?_
  rintro e w2 ⟨⟨gw, rfl, hbx, hgz⟩, hb2⟩
  have h2 := hmono.out _ _ _ _ h0 hb2
  obtain ⟨hr2, hbw2⟩ := hrd.out _ _ _ h2
  clear HW hr hgW hbw hb2 hgz h0
  have d1 := hbx.cell 1 rfl
  have dl := hbx.lt
  go_wp2_with fail
  refine (number_any y1 _ (hg.mono hbw2) hr2 (by omega)).mono ?_
  rintro e w3 ⟨k, E', rfl, hr3, hg3, hn3⟩
  have h3 := hturn.out _ _ _ _ _ h2 hr3 hg3
  clear h2 hr2 hbw2 hg3 d1 dl hbx
  obtain ⟨-, hbw3⟩ := hrd.out _ _ _ h3
  go_wp2_with fail
  by_cases hE : E' = 0
  · subst hE
    have hnk : numP y1 = some k := by
      rcases hn3 with ⟨h, _⟩ | ⟨_, _, h⟩
      · exact h
      · omega
    have HC : Hid (cntP (linesW s) I (toL nm) = (I + 1, 0, k)) := by show _ = _; rw [HCT.out, hnk]
    obtain ⟨k0, k1, -⟩ := numP_iff.1 hnk
    obtain ⟨n0, rfl⟩ : ∃ n0 : Nat, k = n0 := ⟨k.toNat, by omega⟩
    have hn01 : n0 ≤ 1000000 := by omega
    clear hn3 hnk k0 k1 HCT
    refine (next_yes _ (hg.mono hbw3) (by omega) hr3 hI).mono ?_
    rintro e w4 ⟨rfl, hr4, hg4⟩
    have hQ4 := hok.out n0 w4 HC.out (hturn.out _ _ _ _ _ h3 hr4 hg4)
    rw [Int.toNat_natCast] at hQ4
    clear hr3 hg4 hr4 h3 hbw3
    go_wp2_with fail
    go_loopw [8] (fun v8 wr => ∃ (m J : Nat) (E : Int), v8 = .int .i64 m ∧ Q m J E wr ∧ m ≤ 1000000) (fun v8 _ => (intOf v8).toNat)
    case atStart => exact ⟨n0, I + 1, 0, rfl, hQ4, hn01⟩
    case round =>
      clear hQ4 hn01
      obtain ⟨m, J, E, rfl, hQ, hm6⟩ := hrel
      have hrq := hqrd.out _ _ _ _ hQ
      have r2 := hrq.bx.cell 2 rfl
      have rl := hrq.bx.lt
      by_cases hm : 0 < m
      · by_cases hE : E = 0
        · subst hE
          obtain ⟨m', rfl⟩ : ∃ m', m = m' + 1 := ⟨m - 1, by omega⟩
          have hm1 : 0 < ((m' + 1 : Nat) : Int) := by omega
          have hm2 : ((m' + 1 : Nat) : Int) - 1 = (m' : Int) := by omega
          have HE := Lib.hid (hel.out m' J wr (by omega) hQ)
          clear hrq
          go_wp2_with fail
          refine HE.out.mono ?_
          rintro e w5 ⟨rfl, J', E', hQ'⟩
          clear r2 rl
          go_wp2_with fail
          go_roundw
          case rel => exact ⟨m', J', E', by go_num, hQ', by omega⟩
          case measure => simp [intOf]
        · have tE : (E == 0) = false := by rw [beq_eq_false_iff_ne]; exact hE
          have hQe := Lib.hid (HSE.out _ _ _ _ hQ (fun h => absurd h hE))
          clear hE
          go_wp2_with fail
          go_end0
          exact ⟨rfl, hQe.out⟩
      · have hQe := Lib.hid (HSE.out _ _ _ _ hQ (fun _ => by omega))
        have hm1 : ¬ 0 < (m : Int) := by omega
        go_wp2_with fail
        go_end0
        exact ⟨rfl, hQe.out⟩
  · have HC : Hid (cntP (linesW s) I (toL nm) = (I, E', 0)) := by
      show _ = _
      rcases hn3 with ⟨_, h⟩ | ⟨h, _, h2⟩
      · exact absurd h hE
      · rw [HCT.out, h, h2]
    have hQ := Lib.hid (HSE.out _ _ _ _ (hbad.out _ _ _ HC.out hE h3) (fun h => absurd h hE))
    have tE : (E' == 0) = false := by rw [beq_eq_false_iff_ne]; exact hE
    refine (next_err _ hr3 hE).mono ?_
    rintro e w4 ⟨rfl, rfl⟩
    have r2 := hr3.bx.cell 2 rfl
    have rl := hr3.bx.lt
    clear hE hn3 hr3 h3
    go_wp2_with fail
    refine wp_loop_rounds 1 ?_
    rw [rounds_succ]
    by_cases hkb : 0 < k
    all_goals (
      go_wp2_with fail
      go_end0
      exact ⟨rfl, hQ.out⟩)
theorem secRd_err {s : ByteArray} {rb I : Nat} {E : Int} (v : Value) (nm : ByteArray) (W : World) (hr : RdS s rb I E W) (hE : E ≠ 0) :
    Calls Tryz.prog 42 #[.pointer (some ⟨rb, 0, none⟩), .string nm, v] W fun e w' => e = .returned (.tuple #[]) ∧ W = w' := by
  have HW := Lib.hid (words_err nm 2 W hr hE)
  clear hE
  go_enter Tryz.func42, Tryz.ntmps42
  go_wp2_with fail
  refine HW.out.mono ?_
  rintro e w2 ⟨he, rfl⟩
  unfold RetNo at he
  subst he
  go_wp2_with fail
  ((try simp only [Exit.inBlock, Exit.then]); refine bodyPost_ret (results_none rfl _ _ _) rfl ?_)
  exact ⟨rfl, rfl⟩
end Go.Proofs.YtlcdnkloijehjaaGreatDoor

namespace Go.Proofs.YtlcdnkloijehjaaGreatDoor
open Go.RowKit
set_option linter.unusedVariables false

structure RHdn where
  f : RFnd
  note : Int
def cellsRHdn (x : RHdn) : List Value := [.int .i64 x.f.kind, .string x.f.plc.cls, .string x.f.plc.mth, .int .i64 x.f.plc.ins, .string x.f.what, .slice x.f.A x.f.n x.f.c, .int .i64 x.note]
theorem cellsRHdn_ok : CellsOk cellsRHdn 7 := ⟨fun _ => rfl, fun _ u hu => by simp [cellsRHdn] at hu; rcases hu with rfl | rfl | rfl | rfl | rfl | rfl | rfl <;> rfl⟩
theorem hdnsTy : ElemTy Tryz.prog 23 48 7 96 (.agg #[.int .i64 0, .string ByteArray.empty, .string ByteArray.empty, .int .i64 0, .string ByteArray.empty, .slice none 0 0, .int .i64 0]) := ⟨Tryz.underlying23, by kernel_rfl, rfl, by omega⟩
theorem intsTy : ElemTy Tryz.prog 24 3 1 8 (.int .i64 0) := ⟨Tryz.underlying24, by kernel_rfl, rfl, by omega⟩
/-- Raw rows that hold findings. -/
structure RowsF (B : Nat) (w : World) (ro : List RFnd) (O : List Fnd) : Prop where
  len : ro.length = O.length
  each : ∀ (i : Nat) r x, ro[i]? = some r → O[i]? = some x → RowF B w r x
structure RowsH (B : Nat) (w : World) (rh : List RHdn) (H : List Hdn) : Prop where
  len : rh.length = H.length
  each : ∀ (i : Nat) r x, rh[i]? = some r → H[i]? = some x → RowF B w r.f x.f ∧ r.note = x.note
theorem snoc_each {α β : Type} {P : α → β → Prop} {l : List α} {m : List β} {a : α} {b : β} (hl : l.length = m.length) (h : ∀ (i : Nat) r x, l[i]? = some r → m[i]? = some x → P r x) (hab : P a b) : ∀ (i : Nat) r x, (l ++ [a])[i]? = some r → (m ++ [b])[i]? = some x → P r x := by
  intro i r x h1 h2
  rcases Nat.lt_or_ge i l.length with hi | hi
  · rw [List.getElem?_append_left hi] at h1
    rw [List.getElem?_append_left (by omega)] at h2
    exact h i r x h1 h2
  · have h3 := (List.getElem?_eq_some_iff.1 h1).1
    simp at h3
    have hi' : i = l.length := by omega
    subst hi'
    rw [List.getElem?_append_right (Nat.le_refl _)] at h1
    rw [hl, List.getElem?_append_right (Nat.le_refl _)] at h2
    simp at h1 h2
    subst h1 h2
    exact hab
theorem RowF.map {B : Nat} {w w' : World} {r : RFnd} {x : Fnd} (h : RowF B w r x) (f : Own cellsPlc 3 B 43 w (.slice r.A r.n r.c) x.path → Own cellsPlc 3 B 43 w' (.slice r.A r.n r.c) x.path) : RowF B w' r x := ⟨h.kind, h.plc, h.what, f h.path⟩
theorem RowsF.map {B : Nat} {w w' : World} {ro : List RFnd} {O : List Fnd} (h : RowsF B w ro O) (f : ∀ v l, Own cellsPlc 3 B 43 w v l → Own cellsPlc 3 B 43 w' v l) : RowsF B w' ro O := ⟨h.len, fun i r x h1 h2 => (h.each i r x h1 h2).map (f _ _)⟩
theorem RowsH.map {B : Nat} {w w' : World} {rh : List RHdn} {H : List Hdn} (h : RowsH B w rh H) (f : ∀ v l, Own cellsPlc 3 B 43 w v l → Own cellsPlc 3 B 43 w' v l) : RowsH B w' rh H := ⟨h.len, fun i r x h1 h2 => ⟨(h.each i r x h1 h2).1.map (f _ _), (h.each i r x h1 h2).2⟩⟩
/-- The state of Parse: the reader, the pointer to it, the report, its three rows. -/
structure PW (w0 : World) (s : ByteArray) (rb p5 b6 J : Nat) (E : Int) (vO vH vU : Value) (ro : List RFnd) (rh : List RHdn) (U : List Int) (O : List Fnd) (H : List Hdn) (w : World) : Prop where
  rd : RdS s rb J E w
  bp : Box w p5 [.pointer (some ⟨rb, 0, none⟩)] 74
  bx6 : Box w b6 [vO, vH, vU] 26
  oO : Own cellsRFnd 6 w0.heap.size 46 w vO ro
  oH : Own cellsRHdn 7 w0.heap.size 48 w vH rh
  oU : Own cellsInt 1 w0.heap.size 3 w vU U
  rO : E = 0 → RowsF w0.heap.size w ro O
  rH : E = 0 → RowsH w0.heap.size w rh H
  bel : Below w0.heap.size w0 w
  l1 : w0.heap.size ≤ rb
  l2 : w0.heap.size ≤ p5
  l3 : w0.heap.size ≤ b6
  bx2 : Box w (b6 - 3) [.slice none 0 0, .slice none 0 0, .slice none 0 0] 26
  l4 : 3 ≤ b6
section
variable {w0 : World} {s : ByteArray} {rb p5 b6 J J' : Nat} {E E' : Int} {vO vH vU : Value} {ro : List RFnd} {rh : List RHdn} {U : List Int} {O : List Fnd} {H : List Hdn} {w w' : World}
theorem PW.mono (h : PW w0 s rb p5 b6 J E vO vH vU ro rh U O H w) (hb : Below w.heap.size w w') : PW w0 s rb p5 b6 J E vO vH vU ro rh U O H w' :=
  ⟨h.rd.mono hb, h.bp.mono hb, h.bx6.mono hb, h.oO.mono hb, h.oH.mono hb, h.oU.mono hb, fun e => (h.rO e).map (fun _ _ k => k.mono hb), fun e => (h.rH e).map (fun _ _ k => k.mono hb), below_step h.bel hb, h.l1, h.l2, h.l3, h.bx2.mono hb, h.l4⟩
theorem ne_of_types {b c : Nat} {cs ds : List Value} {t u : TypeId} (h1 : Box w b cs t) (h2 : Box w c ds u) (hne : t ≠ u) : b ≠ c := fun e => by
  subst e
  have := h1.symm.trans h2
  injection this with this
  injection this with _ ht
  exact hne ht
/-- The reader turns; an error may come up. -/
theorem PW.turn (h : PW w0 s rb p5 b6 J E vO vH vU ro rh U O H w) (hr : RdS s rb J' E' w') (hg : w.grownBy w' (some rb)) (hE : E' = 0 → E = 0) : PW w0 s rb p5 b6 J' E' vO vH vU ro rh U O H w' := by
  have n1 := ne_of_types h.bp h.rd.bx (by decide)
  have n2 := ne_of_types h.bx6 h.rd.bx (by decide)
  have n3 := ne_of_types h.bx2 h.rd.bx (by decide)
  exact ⟨hr, h.bp.grown hg (fun e => n1 (by injection e)), h.bx6.grown hg (fun e => n2 (by injection e)), h.oO.kept_box h.rd.bx (by decide) hg, h.oH.kept_box h.rd.bx (by decide) hg, h.oU.kept_box h.rd.bx (by decide) hg,
    fun e => (h.rO (hE e)).map (fun _ _ k => k.kept_box h.rd.bx (by decide) hg), fun e => (h.rH (hE e)).map (fun _ _ k => k.kept_box h.rd.bx (by decide) hg), below_grownB h.bel hg h.l1, h.l1, h.l2, h.l3, h.bx2.grown hg (fun e => n3 (by injection e)), h.l4⟩
/-- What a store into the report or another box of the call's leaves. -/
theorem PW.boxed {b : Nat} {cs : List Value} {t : TypeId} (h : PW w0 s rb p5 b6 J E vO vH vU ro rh U O H w) (hb : Box w b cs t) (e1 : 43 ≠ t) (e2 : 46 ≠ t) (e3 : 48 ≠ t) (e4 : 3 ≠ t) (e5 : 76 ≠ t) (e6 : 74 ≠ t) (e7 : 26 ≠ t) (hg : w.grownBy w' (some b)) (hlt : w0.heap.size ≤ b) : PW w0 s rb p5 b6 J E vO vH vU ro rh U O H w' := by
  have n0 := ne_of_types h.rd.bx hb e5
  have n1 := ne_of_types h.bp hb e6
  have n2 := ne_of_types h.bx6 hb e7
  have n3 := ne_of_types h.bx2 hb e7
  exact ⟨⟨h.rd.bx.grown hg (fun e => n0 (by injection e)), h.rd.le⟩, h.bp.grown hg (fun e => n1 (by injection e)), h.bx6.grown hg (fun e => n2 (by injection e)), h.oO.kept_box hb e2 hg, h.oH.kept_box hb e3 hg, h.oU.kept_box hb e4 hg,
    fun e => (h.rO e).map (fun _ _ k => k.kept_box hb e1 hg), fun e => (h.rH e).map (fun _ _ k => k.kept_box hb e1 hg), below_grownB h.bel hg hlt, h.l1, h.l2, h.l3, h.bx2.grown hg (fun e => n3 (by injection e)), h.l4⟩
theorem below_ownB {v : Value} (h : Below w0.heap.size w0 w) (hg : w.grownBy w' v.ownBlock) (hb : ∀ k, v.ownBlock = some k → w0.heap.size ≤ k) : Below w0.heap.size w0 w' :=
  h.trans ((Below.refl _ _).grown hg h.size hb)
/-- An open finding is appended and stored. -/
theorem PW.pushO {vO' : Value} {r : RFnd} {x : Fnd} {O2 : List Fnd} (h : PW w0 s rb p5 b6 J E vO vH vU ro rh U O H w) (ho : Own cellsRFnd 6 w0.heap.size 46 w' vO' (ro ++ [r])) (hg : w.grownBy w' vO.ownBlock) (hr : E = 0 → RowF w0.heap.size w r x) (hO : E = 0 → O2 = O ++ [x]) :
    PW w0 s rb p5 b6 J E vO' vH vU (ro ++ [r]) rh U O2 H (w'.setCell ⟨b6, 0, none⟩ vO') := by
  have hb6 := h.bx6.grown hg (h.oO.ne_box h.bx6 (by decide))
  have hs := grown_set w' b6 0 vO'
  have n1 := ne_of_types h.rd.bx h.bx6 (by decide)
  have n2 := ne_of_types h.bp h.bx6 (by decide)
  refine ⟨⟨(h.rd.bx.grown hg (h.oO.ne_box h.rd.bx (by decide))).setOther (fun e => n1 e.symm) _, h.rd.le⟩, (h.bp.grown hg (h.oO.ne_box h.bp (by decide))).setOther (fun e => n2 e.symm) _, hb6.set 0 vO', ho.kept_box hb6 (by decide) hs,
    (h.oH.kept_other h.oO (by decide) hg).kept_box hb6 (by decide) hs, (h.oU.kept_other h.oO (by decide) hg).kept_box hb6 (by decide) hs, fun e => ?_, fun e => (h.rH e).map (fun _ _ k => (k.kept_other h.oO (by decide) hg).kept_box hb6 (by decide) hs), ?_, h.l1, h.l2, h.l3, (h.bx2.grown hg (h.oO.ne_box h.bx2 (by decide))).setOther (fun e => by have := h.l4; have e' : b6 = b6 - 3 := e; omega) _, h.l4⟩
  · rw [hO e]
    have h1 := (h.rO e).map (w' := w'.setCell ⟨b6, 0, none⟩ vO') (fun _ _ k => (k.kept_other h.oO (by decide) hg).kept_box hb6 (by decide) hs)
    have h2 : RowF w0.heap.size (w'.setCell ⟨b6, 0, none⟩ vO') r x := (hr e).map (fun k => (k.kept_other h.oO (by decide) hg).kept_box hb6 (by decide) hs)
    exact ⟨by rw [List.length_append, List.length_append, h1.len]; rfl, snoc_each h1.len h1.each h2⟩
  · exact below_grownB (below_ownB h.bel hg (fun k hk => (World.ownsRow.lt h.oO k hk).1)) hs h.l3
theorem PW.pushH {vH' : Value} {r : RHdn} {x : Hdn} {H2 : List Hdn} (h : PW w0 s rb p5 b6 J E vO vH vU ro rh U O H w) (ho : Own cellsRHdn 7 w0.heap.size 48 w' vH' (rh ++ [r])) (hg : w.grownBy w' vH.ownBlock) (hr : E = 0 → RowF w0.heap.size w r.f x.f ∧ r.note = x.note) (hH : E = 0 → H2 = H ++ [x]) :
    PW w0 s rb p5 b6 J E vO vH' vU ro (rh ++ [r]) U O H2 (w'.setCell ⟨b6, 1, none⟩ vH') := by
  have hb6 := h.bx6.grown hg (h.oH.ne_box h.bx6 (by decide))
  have hs := grown_set w' b6 1 vH'
  have n1 := ne_of_types h.rd.bx h.bx6 (by decide)
  have n2 := ne_of_types h.bp h.bx6 (by decide)
  refine ⟨⟨(h.rd.bx.grown hg (h.oH.ne_box h.rd.bx (by decide))).setOther (fun e => n1 e.symm) _, h.rd.le⟩, (h.bp.grown hg (h.oH.ne_box h.bp (by decide))).setOther (fun e => n2 e.symm) _, hb6.set 1 vH', (h.oO.kept_other h.oH (by decide) hg).kept_box hb6 (by decide) hs,
    ho.kept_box hb6 (by decide) hs, (h.oU.kept_other h.oH (by decide) hg).kept_box hb6 (by decide) hs, fun e => (h.rO e).map (fun _ _ k => (k.kept_other h.oH (by decide) hg).kept_box hb6 (by decide) hs), fun e => ?_, ?_, h.l1, h.l2, h.l3, (h.bx2.grown hg (h.oH.ne_box h.bx2 (by decide))).setOther (fun e => by have := h.l4; have e' : b6 = b6 - 3 := e; omega) _, h.l4⟩
  · rw [hH e]
    have h1 := (h.rH e).map (w' := w'.setCell ⟨b6, 1, none⟩ vH') (fun _ _ k => (k.kept_other h.oH (by decide) hg).kept_box hb6 (by decide) hs)
    have h2 : RowF w0.heap.size (w'.setCell ⟨b6, 1, none⟩ vH') r.f x.f := (hr e).1.map (fun k => (k.kept_other h.oH (by decide) hg).kept_box hb6 (by decide) hs)
    exact ⟨by rw [List.length_append, List.length_append, h1.len]; rfl, snoc_each h1.len h1.each ⟨h2, (hr e).2⟩⟩
  · exact below_grownB (below_ownB h.bel hg (fun k hk => (World.ownsRow.lt h.oH k hk).1)) hs h.l3
theorem PW.pushU {vU' : Value} {n : Int} (h : PW w0 s rb p5 b6 J E vO vH vU ro rh U O H w) (ho : Own cellsInt 1 w0.heap.size 3 w' vU' (U ++ [n])) (hg : w.grownBy w' vU.ownBlock) :
    PW w0 s rb p5 b6 J E vO vH vU' ro rh (U ++ [n]) O H (w'.setCell ⟨b6, 2, none⟩ vU') := by
  have hb6 := h.bx6.grown hg (h.oU.ne_box h.bx6 (by decide))
  have hs := grown_set w' b6 2 vU'
  have n1 := ne_of_types h.rd.bx h.bx6 (by decide)
  have n2 := ne_of_types h.bp h.bx6 (by decide)
  refine ⟨⟨(h.rd.bx.grown hg (h.oU.ne_box h.rd.bx (by decide))).setOther (fun e => n1 e.symm) _, h.rd.le⟩, (h.bp.grown hg (h.oU.ne_box h.bp (by decide))).setOther (fun e => n2 e.symm) _, hb6.set 2 vU', (h.oO.kept_other h.oU (by decide) hg).kept_box hb6 (by decide) hs,
    (h.oH.kept_other h.oU (by decide) hg).kept_box hb6 (by decide) hs, ho.kept_box hb6 (by decide) hs, fun e => (h.rO e).map (fun _ _ k => (k.kept_other h.oU (by decide) hg).kept_box hb6 (by decide) hs), fun e => (h.rH e).map (fun _ _ k => (k.kept_other h.oU (by decide) hg).kept_box hb6 (by decide) hs), ?_, h.l1, h.l2, h.l3, (h.bx2.grown hg (h.oU.ne_box h.bx2 (by decide))).setOther (fun e => by have := h.l4; have e' : b6 = b6 - 3 := e; omega) _, h.l4⟩
  exact below_grownB (below_ownB h.bel hg (fun k hk => (World.ownsRow.lt h.oU k hk).1)) hs h.l3
end
end Go.Proofs.YtlcdnkloijehjaaGreatDoor

namespace Go.Proofs.YtlcdnkloijehjaaGreatDoor
open Go.RowKit
set_option linter.unusedVariables false

theorem Own.base_le' {α : Type} {cells : α → List Value} {size base base' : Nat} {e : TypeId} {w : World} {v : Value} {l : List α} (h : Own cells size base e w v l) (hb : base' ≤ base) : Own cells size base' e w v l := by
  rcases h with ⟨h1, h2⟩
  refine ⟨h1, ?_⟩
  rcases h2 with h2 | ⟨g, cap, cur, a, b, c⟩
  · exact Or.inl h2
  · exact Or.inr ⟨g, cap, cur, a, Nat.le_trans hb b, c⟩
theorem RowF.base {B B' : Nat} {w : World} {r : RFnd} {x : Fnd} (h : RowF B w r x) (hb : B' ≤ B) : RowF B' w r x := ⟨h.kind, h.plc, h.what, h.path.base_le' hb⟩
def QO (w0 : World) (s : ByteArray) (rb p5 b6 : Nat) (S : Nat × Int × List Fnd) (m J : Nat) (E : Int) (w : World) : Prop :=
  ∃ vO ro O, PW w0 s rb p5 b6 J E vO (.slice none 0 0) (.slice none 0 0) ro [] [] O [] w ∧ ((E = 0 ∧ opnP (linesW s) m J O = S) ∨ (E ≠ 0 ∧ S.1 = J ∧ S.2.1 = E)) ∧ ro.length + m ≤ 1000001
set_option maxHeartbeats 8000000 in
set_option maxRecDepth 100000 in
theorem elO {w0 : World} {s : ByteArray} {rb p5 b6 : Nat} {S : Nat × Int × List Fnd} (hg : Glp w0) (hs : s.size ≤ 1500000) : ∀ m J w, m ≤ 1000000 → QO w0 s rb p5 b6 S (m + 1) J 0 w →
    Calls Tryz.prog 43 #[.pointer (some ⟨b6, 0, none⟩), .pointer (some ⟨p5, 0, none⟩)] w fun e w' => e = .returned (.tuple #[]) ∧ ∃ J' E', QO w0 s rb p5 b6 S m J' E' w' := by
  rintro m J w hm ⟨vO, ro, O, hP, hQ, hlen⟩
  have hS : opnP (linesW s) (m + 1) J O = S := by
    rcases hQ with ⟨_, h⟩ | ⟨h, _⟩
    · exact h
    · exact absurd rfl h
  have HS : Hid (S = if (findP (linesW s) J).2.1 = 0 then opnP (linesW s) m (findP (linesW s) J).1 (O ++ [(findP (linesW s) J).2.2]) else ((findP (linesW s) J).1, (findP (linesW s) J).2.1, O)) := by
    show _ = _
    rw [← hS]
    rfl
  clear hS hQ
  have HFD := Lib.hid (fun W' hbw hr => finding_any (w0 := w0) (s := s) (rb := rb) (I := J) W' hg hP.l1 hbw hs hr)
  generalize findP (linesW s) J = T at *
  have HFIN : Hid (∀ w' vO' r, PW w0 s rb p5 b6 T.1 T.2.1 vO' (.slice none 0 0) (.slice none 0 0) (ro ++ [r]) [] [] (O ++ [T.2.2]) [] w' → ∃ J' E', QO w0 s rb p5 b6 S m J' E' w') := by
    show ∀ w', _
    intro w' vO' r h
    refine ⟨T.1, T.2.1, vO', _, _, h, ?_, by rw [List.length_append]; simp; omega⟩
    by_cases hE : T.2.1 = 0
    · exact Or.inl ⟨hE, by rw [HS.out, if_pos hE]⟩
    · exact Or.inr ⟨hE, by rw [HS.out, if_neg hE], by rw [HS.out, if_neg hE]⟩
  clear HS
  go_enter Tryz.func43, Tryz.ntmps43
  go_wp2_with fail
  have hP1 := hP.mono (show Below w.heap.size w w.drew by exact (by repeat (first | assumption | exact Below.refl _ _ | apply bw_alloc | apply bw_drew | apply bw_drewN | apply bw_later | apply bw_step)))
  refine wp_region_RC (S := fun w' => w'.cell? ⟨b6, 0, none⟩ = some vO ∧ w'.cell? ⟨p5, 0, none⟩ = some (.pointer (some ⟨rb, 0, none⟩))) 6 (by kernel_rfl) ⟨hP1.bx6.cell 0 rfl, hP1.bp.cell 0 rfl⟩ (by kernel_rfl) ?_
  generalize World.drew w = wd at *
  clear hP
  have hsome : Nonempty (Held (fun w' : World => w'.cell? ⟨b6, 0, none⟩ = some vO ∧ w'.cell? ⟨p5, 0, none⟩ = some (.pointer (some ⟨rb, 0, none⟩)))) := ⟨⟨wd, hP1.bx6.cell 0 rfl, hP1.bp.cell 0 rfl⟩⟩
  have hh : ∀ x : Held (fun w' : World => w'.cell? ⟨b6, 0, none⟩ = some vO ∧ w'.cell? ⟨p5, 0, none⟩ = some (.pointer (some ⟨rb, 0, none⟩))), x.W.cell? ⟨b6, 0, none⟩ = some vO ∧ x.W.cell? ⟨p5, 0, none⟩ = some (.pointer (some ⟨rb, 0, none⟩)) := fun x => x.h
  have q1 := fun x => (hh x).1
  have q2 := fun x => (hh x).2
  clear hh
  refine RC.chunk (f := 3) [0, 1, 2] (by kernel_rfl) ?_
  ((simp only [pickOps, List.filterMap, List.getElem?_toArray, List.getElem?_cons_zero, List.getElem?_cons_succ]); (repeat (go_big_quiet_step (fail))); refine wpQuiet_nil ?_)
  clear q1 q2
  refine RC.single 3 rfl (by kernel_rfl) (by omega) ?_
  intro K2 hK2
  go_wp2_with fail
  refine (HFD.out _ hP1.bel hP1.rd).mono ?_
  rintro e w1 ⟨⟨r, rfl, hrow⟩, hr1, hg1⟩
  have hP2 := hP1.turn hr1 hg1 (fun _ => rfl)
  have HROW : Hid (T.2.1 = 0 → RowF w0.heap.size w1 r T.2.2) := fun h => (hrow h).base hP1.bel.size
  go_wp2_with fail
  refine hK2 _ _ ⟨hP2.bx6.cell 0 rfl, hP2.bp.cell 0 rfl⟩ ?_
  clear hK2 hP1 hr1 hg1 hrow
  have hb3 : Below w1.heap.size w1 (w1.alloc (.cells (cellsRFnd r).toArray 46)) := by exact (by repeat (first | assumption | exact Below.refl _ _ | apply bw_alloc | apply bw_drew | apply bw_drewN | apply bw_later | apply bw_step))
  have hP3 := hP2.mono hb3
  have HROW3 : Hid (T.2.1 = 0 → RowF w0.heap.size (w1.alloc (.cells (cellsRFnd r).toArray 46)) r T.2.2) := fun h => (HROW.out h).map (fun k => k.mono hb3)
  have bx3 := Box.new w1 (cellsRFnd r) 46
  have hz3 : w0.heap.size ≤ (w1.alloc (.cells (cellsRFnd r).toArray 46)).heap.size := hP3.bel.size
  refine RC.single 4 rfl (by kernel_rfl) (by omega) ?_
  intro K2 hK2
  go_wp2_with fail
  refine hK2 _ _ ⟨hP3.bx6.cell 0 rfl, hP3.bp.cell 0 rfl⟩ ?_
  clear hK2 hP2 HROW hb3
  change RC _ _ _ _ _ _ _ _ (w1.alloc (.cells (cellsRFnd r).toArray 46))
  generalize hW : w1.alloc _ = w3 at *
  clear hW
  refine RC.single 5 rfl (by kernel_rfl) (by omega) ?_
  intro K2 hK2
  refine wpList_pushG fndsTy cellsRFnd_ok rfl (.tmp 3) (.tmp 6) rfl w0.heap.size vO ro rfl hP3.oO r _ _ rfl (fun j u hu => bx3.cell j hu) (by unfold maxLen; omega) (by omega) hz3 ?_
  intro v' w4 ho4 hb4 hg4
  obtain ⟨A6, n6, c6, rfl⟩ := ho4.form3
  have hP5 := hP3.pushO ho4 hg4 HROW3.out (fun _ => rfl)
  have b4 := hP3.bx6.grown hg4 (hP3.oO.ne_box hP3.bx6 (by decide))
  have k4 := hP3.bp.grown hg4 (hP3.oO.ne_box hP3.bp (by decide))
  go_wp2_with fail
  refine hK2 _ _ ⟨b4.cell 0 rfl, k4.cell 0 rfl⟩ ?_
  clear hK2 hsome hP3 HROW3 bx3 hz3 ho4 hb4 hg4 k4
  have f0 := b4.cell 0 rfl
  have ff := b4.free 0
  have fl := b4.lt
  have HF := Lib.hid (HFIN.out _ _ _ hP5)
  refine RC.tail (by kernel_rfl) ?_
  simp only [List.drop_succ_cons, List.drop_zero]
  go_wp2_with fail
  go_end0
  exact ⟨rfl, HF.out⟩
end Go.Proofs.YtlcdnkloijehjaaGreatDoor

namespace Go.Proofs.YtlcdnkloijehjaaGreatDoor
open Go.RowKit
set_option linter.unusedVariables false

def QU (w0 : World) (s : ByteArray) (rb p5 b6 : Nat) (vO vH : Value) (ro : List RFnd) (rh : List RHdn) (O : List Fnd) (H : List Hdn) (S : Nat × Int × List Int) (m J : Nat) (E : Int) (w : World) : Prop :=
  ∃ vU U, PW w0 s rb p5 b6 J E vO vH vU ro rh U O H w ∧ ((E = 0 ∧ unsP (linesW s) m J U = S) ∨ (E ≠ 0 ∧ S.1 = J ∧ S.2.1 = E)) ∧ U.length + m ≤ 1000001
set_option maxHeartbeats 8000000 in
set_option maxRecDepth 100000 in
theorem elU {w0 : World} {s : ByteArray} {rb p5 b6 : Nat} {vO vH : Value} {ro : List RFnd} {rh : List RHdn} {O : List Fnd} {H : List Hdn} {S : Nat × Int × List Int} (hg : Glp w0) (hs : s.size ≤ 1500000) : ∀ m J w, m ≤ 1000000 → QU w0 s rb p5 b6 vO vH ro rh O H S (m + 1) J 0 w →
    Calls Tryz.prog 49 #[.pointer (some ⟨p5, 0, none⟩), .pointer (some ⟨b6, 0, none⟩)] w fun e w' => e = .returned (.tuple #[]) ∧ ∃ J' E', QU w0 s rb p5 b6 vO vH ro rh O H S m J' E' w' := by
  rintro m J w hm ⟨vU, U, hP, hQ, hlen⟩
  have hS : unsP (linesW s) (m + 1) J U = S := by
    rcases hQ with ⟨_, h⟩ | ⟨h, _⟩
    · exact h
    · exact absurd rfl h
  have HS : Hid (S = if (cntP (linesW s) J wIdx).2.1 = 0 then unsP (linesW s) m (cntP (linesW s) J wIdx).1 (U ++ [(cntP (linesW s) J wIdx).2.2]) else ((cntP (linesW s) J wIdx).1, (cntP (linesW s) J wIdx).2.1, U)) := by
    show _ = _
    rw [← hS]
    rfl
  clear hS hQ
  have HFIN : Hid (∀ w' vU' U' J' E' k, cntP (linesW s) J wIdx = (J', E', k) → (E' = 0 → U' = U ++ [k]) → U'.length ≤ U.length + 1 → PW w0 s rb p5 b6 J' E' vO vH vU' ro rh U' O H w' → ∃ J' E', QU w0 s rb p5 b6 vO vH ro rh O H S m J' E' w') := by
    show ∀ w', _
    intro w' vU' U' J' E' k hc hU hUl h
    rw [hc] at HS
    refine ⟨J', E', vU', U', h, ?_, by omega⟩
    by_cases hE : E' = 0
    · exact Or.inl ⟨hE, by rw [hU hE, HS.out, if_pos hE]⟩
    · exact Or.inr ⟨hE, by rw [HS.out, if_neg hE], by rw [HS.out, if_neg hE]⟩
  clear HS
  have p5c := hP.bp.cell 0 rfl
  have p5l := hP.bp.lt
  by_cases hw : (wordsP (linesW s) J wIdx 2).1 = 0
  case neg =>
    have HW := Lib.hid (words_no ⟨#[105, 110, 100, 101, 120]⟩ 2 w (hg.mono hP.bel) hs hP.rd hw)
    rw [show toL (⟨#[105, 110, 100, 101, 120]⟩ : ByteArray) = wIdx from rfl] at HW
    have HC := Lib.hid (cntP_bad hw)
    have HN := Lib.hid hw
    generalize (wordsP (linesW s) J wIdx 2).1 = c at *
    clear hw
    go_enter Tryz.func49, Tryz.ntmps49
    go_wp2_with fail
    refine HW.out.mono ?_
    rintro e w2 ⟨he, hr2, hg2⟩
    unfold RetNo at he
    subst he
    have hP2 := hP.turn hr2 hg2 (fun _ => rfl)
    have HF := Lib.hid (HFIN.out _ _ _ _ _ _ HC.out (fun h => absurd h HN.out) (by omega) hP2)
    go_wp2_with fail
    go_end0
    exact ⟨rfl, HF.out⟩
  obtain ⟨l, hwl⟩ : ∃ l, wordsP (linesW s) J wIdx 2 = (0, l) := ⟨_, Prod.ext hw rfl⟩
  obtain ⟨hI, hl2, hsz, -⟩ := words_sizes hwl
  have HW := Lib.hid (words_yes ⟨#[105, 110, 100, 101, 120]⟩ 2 l w (hg.mono hP.bel) hs hP.rd hwl)
  obtain ⟨y0, y1, rfl⟩ := list2 hl2
  have HCT := Lib.hid (cntP_at hwl)
  have s1 := hsz y1 (by simp)
  clear hw hwl hl2 hsz
  go_enter Tryz.func49, Tryz.ntmps49
  go_wp2_with fail
  refine HW.out.mono ?_
  rintro e w2 ⟨⟨gw, rfl, hbx, hgz⟩, hb2⟩
  have hP2 := hP.mono hb2
  clear hP p5c p5l HW hb2 hgz
  go_wp2_with fail
  have hP3 := hP2.mono (show Below w2.heap.size w2 w2.drew by exact (by repeat (first | assumption | exact Below.refl _ _ | apply bw_alloc | apply bw_drew | apply bw_drewN | apply bw_later | apply bw_step)))
  have hbx3 := hbx.mono (show Below w2.heap.size w2 w2.drew by exact (by repeat (first | assumption | exact Below.refl _ _ | apply bw_alloc | apply bw_drew | apply bw_drewN | apply bw_later | apply bw_step)))
  refine wp_region_RC (S := fun w' => Box w' gw [.string y0, .string y1] 9 ∧ w'.cell? ⟨b6, 2, none⟩ = some vU ∧ w'.cell? ⟨p5, 0, none⟩ = some (.pointer (some ⟨rb, 0, none⟩))) 9 (by kernel_rfl) ⟨hbx3, hP3.bx6.cell 2 rfl, hP3.bp.cell 0 rfl⟩ (by kernel_rfl) ?_
  generalize World.drew w2 = wd at *
  have hsome : Nonempty (Held (fun w' : World => Box w' gw [.string y0, .string y1] 9 ∧ w'.cell? ⟨b6, 2, none⟩ = some vU ∧ w'.cell? ⟨p5, 0, none⟩ = some (.pointer (some ⟨rb, 0, none⟩)))) := ⟨⟨wd, hbx3, hP3.bx6.cell 2 rfl, hP3.bp.cell 0 rfl⟩⟩
  have hh : ∀ x : Held (fun w' : World => Box w' gw [.string y0, .string y1] 9 ∧ w'.cell? ⟨b6, 2, none⟩ = some vU ∧ w'.cell? ⟨p5, 0, none⟩ = some (.pointer (some ⟨rb, 0, none⟩))), Box x.W gw [.string y0, .string y1] 9 ∧ x.W.cell? ⟨b6, 2, none⟩ = some vU ∧ x.W.cell? ⟨p5, 0, none⟩ = some (.pointer (some ⟨rb, 0, none⟩)) := fun x => x.h
  have q0 := fun x => (hh x).1.cell 1 rfl
  have ql := fun x => (hh x).1.lt
  have q1 := fun x => (hh x).2.1
  have q2 := fun x => (hh x).2.2
  clear hh hP2 hbx
  refine RC.chunk (f := 3) [0, 1, 2, 3, 4, 5] (by kernel_rfl) ?_
  ((simp only [pickOps, List.filterMap, List.getElem?_toArray, List.getElem?_cons_zero, List.getElem?_cons_succ]); (repeat (go_big_quiet_step (fail))); refine wpQuiet_nil ?_)
  clear q0 q1 q2 ql
  refine RC.single 6 rfl (by kernel_rfl) (by omega) ?_
  intro K2 hK2
  go_wp2_with fail
  refine (number_any y1 _ (hg.mono hP3.bel) hP3.rd (by omega)).mono ?_
  rintro e w4 ⟨k, E', rfl, hr4, hg4, hn4⟩
  have hP4 := hP3.turn hr4 hg4 (fun _ => rfl)
  have hbx4 := hbx3.grown hg4 (fun e => ne_of_types hbx3 hP3.rd.bx (by decide) (by injection e))
  have HN4 := Lib.hid hn4
  go_wp2_with fail
  refine hK2 _ _ ⟨hbx4, hP4.bx6.cell 2 rfl, hP4.bp.cell 0 rfl⟩ ?_
  clear hK2 hP3 hbx3 hr4 hg4 hn4
  have hb5 : Below w4.heap.size w4 (w4.alloc (.cells #[.int .i64 k] 3)) := by exact (by repeat (first | assumption | exact Below.refl _ _ | apply bw_alloc | apply bw_drew | apply bw_drewN | apply bw_later | apply bw_step))
  have hP5 := hP4.mono hb5
  have hbx5 := hbx4.mono hb5
  have bx5 := Box.new w4 [.int .i64 k] 3
  refine RC.single 7 rfl (by kernel_rfl) (by omega) ?_
  intro K2 hK2
  go_wp2_with fail
  refine hK2 _ _ ⟨hbx5, hP5.bx6.cell 2 rfl, hP5.bp.cell 0 rfl⟩ ?_
  clear hK2 hP4 hbx4 hb5
  have hz5 : w0.heap.size ≤ (w4.alloc (.cells #[.int .i64 k] 3)).heap.size := hP5.bel.size
  generalize hW : w4.alloc _ = w5 at *
  clear hW
  refine RC.single 8 rfl (by kernel_rfl) (by omega) ?_
  intro K2 hK2
  refine wpList_pushG intsTy cellsInt_ok rfl (.tmp 11) (.tmp 17) rfl w0.heap.size vU U rfl hP5.oU k _ _ rfl (fun j u hu => bx5.cell j hu) (by unfold maxLen; omega) (by omega) hz5 ?_
  intro v' w6 ho6 hb6 hg6
  obtain ⟨A6, n6, c6, rfl⟩ := ho6.form3
  have hP6 := hP5.pushU ho6 hg6
  have b4 := hP5.bx6.grown hg6 (hP5.oU.ne_box hP5.bx6 (by decide))
  have k4 := hP5.bp.grown hg6 (hP5.oU.ne_box hP5.bp (by decide))
  have hbx6 := hbx5.grown hg6 (hP5.oU.ne_box hbx5 (by decide))
  go_wp2_with fail
  refine hK2 _ _ ⟨hbx6, b4.cell 2 rfl, k4.cell 0 rfl⟩ ?_
  clear hK2 hsome hP5 bx5 hz5 ho6 hb6 hg6 k4 hbx5 hbx6
  have f0 := b4.cell 2 rfl
  have ff := b4.free 2
  have fl := b4.lt
  have HUL : Hid ((U ++ [k]).length ≤ U.length + 1) := by show _ ≤ _; rw [List.length_append]; exact Nat.le_refl _
  refine RC.tail (by kernel_rfl) ?_
  simp only [List.drop_succ_cons, List.drop_zero]
  go_upto_region 3 with fail
  generalize World.setCell _ _ _ = w7 at *
  clear b4 f0 ff fl
  have p5c := hP6.bp.cell 0 rfl
  have p5l := hP6.bp.lt
  go_wp2_with fail
  by_cases hE : E' = 0
  · subst hE
    have HC : Hid (cntP (linesW s) J wIdx = (J + 1, 0, k)) := by
      show _ = _
      rcases HN4.out with ⟨h, _⟩ | ⟨_, _, h⟩
      · rw [HCT.out, h]
      · omega
    refine (next_yes _ (hg.mono hP6.bel) (by omega) hP6.rd hI).mono ?_
    rintro e w8 ⟨rfl, hr8, hg8⟩
    have hP8 := hP6.turn hr8 hg8 (fun _ => rfl)
    have HF := Lib.hid (HFIN.out _ _ _ _ _ _ HC.out (fun _ => rfl) HUL.out hP8)
    go_wp2_with fail
    go_end0
    exact ⟨rfl, HF.out⟩
  · have HC : Hid (cntP (linesW s) J wIdx = (J, E', 0)) := by
      show _ = _
      rcases HN4.out with ⟨_, h⟩ | ⟨h, _, h2⟩
      · exact absurd h hE
      · rw [HCT.out, h, h2]
    have HF := Lib.hid (HFIN.out _ _ _ _ _ _ HC.out (fun h => absurd h hE) HUL.out hP6)
    refine (next_err _ hP6.rd hE).mono ?_
    rintro e w8 ⟨rfl, rfl⟩
    clear hE HN4
    go_wp2_with fail
    go_end0
    exact ⟨rfl, HF.out⟩
end Go.Proofs.YtlcdnkloijehjaaGreatDoor

namespace Go.Proofs.YtlcdnkloijehjaaGreatDoor
open Go.RowKit
set_option linter.unusedVariables false

/-- What words returns. -/
def WdR (s : ByteArray) (rb I : Nat) (nm : List UInt8) (n : Nat) (W w' : World) (e : Ending) : Prop :=
  ∃ v ok E', e = .returned (.tuple #[v, .bool ok]) ∧ RdS s rb I E' w' ∧ W.grownBy w' (some rb) ∧ ((ok = true ∧ E' = 0 ∧ ∃ l g, wordsP (linesW s) I nm n = (0, l) ∧ v = .slice (some ⟨g, 0, none⟩) l.length l.length ∧ Box w' g (l.map Value.string) 9) ∨ (ok = false ∧ E' ≠ 0 ∧ (wordsP (linesW s) I nm n).1 = E'))
theorem words_all {s : ByteArray} {rb I : Nat} (nm : ByteArray) (n : Nat) (W : World) (hg : Glp W) (hs : s.size ≤ 1500000) (hr : RdS s rb I 0 W) :
    Calls Tryz.prog 46 #[.pointer (some ⟨rb, 0, none⟩), .string nm, .int .i64 n] W fun e w' => WdR s rb I (toL nm) n W w' e := by
  by_cases hw : (wordsP (linesW s) I (toL nm) n).1 = 0
  · obtain ⟨l, hwl⟩ : ∃ l, wordsP (linesW s) I (toL nm) n = (0, l) := ⟨_, Prod.ext hw rfl⟩
    refine (words_yes nm n l W hg hs hr hwl).mono ?_
    rintro e w' ⟨⟨g, rfl, hb, _⟩, hbl⟩
    exact ⟨_, true, 0, rfl, hr.mono hbl, grown_below hbl _, Or.inl ⟨rfl, rfl, l, g, hwl, rfl, hb⟩⟩
  · refine (words_no nm n W hg hs hr hw).mono ?_
    rintro e w' ⟨h1, h2, h3⟩
    exact ⟨_, false, _, h1, h2, h3, Or.inr ⟨rfl, hw, rfl⟩⟩
/-- finding, whether or not an error is due. -/
def fndT2 (s : ByteArray) (I : Nat) (E : Int) : Nat × Int × Fnd := if E = 0 then findP (linesW s) I else (I, E, fnd0)
theorem finding_all {w0 : World} {s : ByteArray} {rb I : Nat} {E : Int} (W : World) (hg : Glp w0) (hrb : w0.heap.size ≤ rb) (hbw : Below w0.heap.size w0 W) (hs : s.size ≤ 1500000) (hr : RdS s rb I E W) :
    Calls Tryz.prog 44 #[.pointer (some ⟨rb, 0, none⟩)] W fun e w' => FndR W.heap.size (fndT2 s I E) w' e ∧ RdS s rb (fndT2 s I E).1 (fndT2 s I E).2.1 w' ∧ W.grownBy w' (some rb) := by
  unfold fndT2
  by_cases hE : E = 0
  · subst hE
    rw [if_pos rfl]
    exact finding_any W hg hrb hbw hs hr
  · rw [if_neg hE]
    refine (finding_err W hr hE).mono ?_
    rintro e w' ⟨h1, hb⟩
    exact ⟨h1, hr.mono hb, grown_below hb _⟩
theorem hdn1_eq {s : ByteArray} {J J1 : Nat} {E1 k : Int} (h : cntP (linesW s) J wNote = (J1, E1, k)) : (hdn1 (linesW s) J).1 = (fndT2 s J1 E1).1 ∧ (hdn1 (linesW s) J).2.1 = (fndT2 s J1 E1).2.1 ∧ ((fndT2 s J1 E1).2.1 = 0 → (hdn1 (linesW s) J).2.2 = ⟨(fndT2 s J1 E1).2.2, k⟩) := by
  unfold hdn1 fndT2
  rw [h]
  by_cases hE : E1 = 0 <;> simp [hE]
def QH (w0 : World) (s : ByteArray) (rb p5 b6 : Nat) (vO : Value) (ro : List RFnd) (O : List Fnd) (S : Nat × Int × List Hdn) (m J : Nat) (E : Int) (w : World) : Prop :=
  ∃ vH rh H, PW w0 s rb p5 b6 J E vO vH (.slice none 0 0) ro rh [] O H w ∧ ((E = 0 ∧ hdnP (linesW s) m J H = S) ∨ (E ≠ 0 ∧ S.1 = J ∧ S.2.1 = E)) ∧ rh.length + m ≤ 1000001
theorem PW.boxedH {w0 : World} {s : ByteArray} {rb p5 b6 J : Nat} {E : Int} {vO vH vU : Value} {ro : List RFnd} {rh : List RHdn} {U : List Int} {O : List Fnd} {H : List Hdn} {w w' : World} {b : Nat} {cs : List Value} (h : PW w0 s rb p5 b6 J E vO vH vU ro rh U O H w) (hb : Box w b cs 48) (hne : vH.ownBlock ≠ some b) (hg : w.grownBy w' (some b)) (hlt : w0.heap.size ≤ b) : PW w0 s rb p5 b6 J E vO vH vU ro rh U O H w' := by
  have n0 := ne_of_types h.rd.bx hb (by decide)
  have n1 := ne_of_types h.bp hb (by decide)
  have n2 := ne_of_types h.bx6 hb (by decide)
  have n3 := ne_of_types h.bx2 hb (by decide)
  exact ⟨⟨h.rd.bx.grown hg (fun e => n0 (by injection e)), h.rd.le⟩, h.bp.grown hg (fun e => n1 (by injection e)), h.bx6.grown hg (fun e => n2 (by injection e)), h.oO.kept_box hb (by decide) hg, h.oH.kept hg (fun k hk he => by injection hk with hk; subst hk; exact hne he), h.oU.kept_box hb (by decide) hg,
    fun e => (h.rO e).map (fun _ _ k => k.kept_box hb (by decide) hg), fun e => (h.rH e).map (fun _ _ k => k.kept_box hb (by decide) hg), below_grownB h.bel hg hlt, h.l1, h.l2, h.l3, h.bx2.grown hg (fun e => n3 (by injection e)), h.l4⟩
theorem store6H {w : World} {b : Nat} {a0 a1 a2 a3 a4 a5 a6 : Value} {t : TypeId} (h : Box w b [a0, a1, a2, a3, a4, a5, a6] t) (v0 v1 v2 v3 v4 v5 : Value) :
    Box ((((((w.setCell ⟨b, 0, none⟩ v0).setCell ⟨b, 1, none⟩ v1).setCell ⟨b, 2, none⟩ v2).setCell ⟨b, 3, none⟩ v3).setCell ⟨b, 4, none⟩ v4).setCell ⟨b, 5, none⟩ v5) b [v0, v1, v2, v3, v4, v5, a6] t ∧ w.grownBy ((((((w.setCell ⟨b, 0, none⟩ v0).setCell ⟨b, 1, none⟩ v1).setCell ⟨b, 2, none⟩ v2).setCell ⟨b, 3, none⟩ v3).setCell ⟨b, 4, none⟩ v4).setCell ⟨b, 5, none⟩ v5) (some b) :=
  ⟨(((((h.set 0 v0).set 1 v1).set 2 v2).set 3 v3).set 4 v4).set 5 v5, grown_trans (grown_trans (grown_set2 _ _ _ _ _ _) (grown_set2 _ _ _ _ _ _)) (grown_set2 _ _ _ _ _ _)⟩
set_option maxHeartbeats 8000000 in
set_option maxRecDepth 100000 in
theorem elH {w0 : World} {s : ByteArray} {rb p5 b6 : Nat} {vO : Value} {ro : List RFnd} {O : List Fnd} {S : Nat × Int × List Hdn} (hg : Glp w0) (hs : s.size ≤ 1500000) : ∀ m J w, m ≤ 1000000 → QH w0 s rb p5 b6 vO ro O S (m + 1) J 0 w →
    Calls Tryz.prog 45 #[.pointer (some ⟨p5, 0, none⟩), .pointer (some ⟨b6, 0, none⟩)] w fun e w' => e = .returned (.tuple #[]) ∧ ∃ J' E', QH w0 s rb p5 b6 vO ro O S m J' E' w' := by
  rintro m J w hm ⟨vH, rh, H, hP0, hQ, hlen⟩
  have hS : hdnP (linesW s) (m + 1) J H = S := by
    rcases hQ with ⟨_, h⟩ | ⟨h, _⟩
    · exact h
    · exact absurd rfl h
  have HS : Hid (S = if (hdn1 (linesW s) J).2.1 = 0 then hdnP (linesW s) m (hdn1 (linesW s) J).1 (H ++ [(hdn1 (linesW s) J).2.2]) else ((hdn1 (linesW s) J).1, (hdn1 (linesW s) J).2.1, H)) := by
    show _ = _
    rw [← hS]
    rfl
  clear hS hQ
  have HFIN : Hid (∀ w' vH' r J1 E1 k H2, cntP (linesW s) J wNote = (J1, E1, k) → ((fndT2 s J1 E1).2.1 = 0 → H2 = H ++ [⟨(fndT2 s J1 E1).2.2, k⟩]) → PW w0 s rb p5 b6 (fndT2 s J1 E1).1 (fndT2 s J1 E1).2.1 vO vH' (.slice none 0 0) ro (rh ++ [r]) [] O H2 w' → ∃ J' E', QH w0 s rb p5 b6 vO ro O S m J' E' w') := by
    show ∀ w', _
    intro w' vH' r J1 E1 k H2 hc hH2 h
    obtain ⟨h1, h2, h3⟩ := hdn1_eq hc
    refine ⟨_, _, vH', _, _, h, ?_, by rw [List.length_append]; simp; omega⟩
    by_cases hE : (fndT2 s J1 E1).2.1 = 0
    · exact Or.inl ⟨hE, by rw [HS.out, if_pos (by rw [h2]; exact hE), h1, h3 hE, hH2 hE]⟩
    · exact Or.inr ⟨hE, by rw [HS.out, if_neg (by rw [h2]; exact hE)]; exact h1, by rw [HS.out, if_neg (by rw [h2]; exact hE)]; exact h2⟩
  clear HS
  generalize hW0 : w.alloc (.cells #[.int .i64 0, .string ⟨#[]⟩, .string ⟨#[]⟩, .int .i64 0, .string ⟨#[]⟩, .slice none 0 0, .int .i64 0] 48) = w1
  have hb1 : Below w.heap.size w w1 := by rw [← hW0]; exact (by repeat (first | assumption | exact Below.refl _ _ | apply bw_alloc | apply bw_drew | apply bw_drewN | apply bw_later | apply bw_step))
  have bh : Box w1 w.heap.size [.int .i64 0, .string ⟨#[]⟩, .string ⟨#[]⟩, .int .i64 0, .string ⟨#[]⟩, .slice none 0 0, .int .i64 0] 48 := by rw [← hW0]; exact Box.new _ _ _
  have hP := hP0.mono hb1
  have hbl : w0.heap.size ≤ w.heap.size := hP0.bel.size
  have HNB : Hid (vH.ownBlock ≠ some w.heap.size) := fun e => by have := (World.ownsRow.lt hP0.oH _ e).2; omega
  clear hP0 hb1
  go_enter Tryz.func45, Tryz.ntmps45
  go_upto_region 1 with fail
  clear hW0
  have p5c := hP.bp.cell 0 rfl
  have p5l := hP.bp.lt
  go_wp2_with fail
  refine (words_all ⟨#[110, 111, 116, 101]⟩ 2 _ (hg.mono hP.bel) hs hP.rd).mono ?_
  rintro e w2 ⟨v, ok, E1, rfl, hr2, hg2, hc2⟩
  have hP2 := hP.turn hr2 hg2 (fun _ => rfl)
  have bh2 := bh.grown hg2 (fun e => ne_of_types bh hP.rd.bx (by decide) (by injection e))
  rw [show toL (⟨#[110, 111, 116, 101]⟩ : ByteArray) = wNote from rfl] at hc2
  have HC2 := Lib.hid hc2
  clear hP bh hr2 hg2 hc2 p5c p5l
  go_upto_if 10 with fail
  go_cut [3] (fun v3 wx => ∃ (J1 : Nat) (E1 k : Int), PW w0 s rb p5 b6 J1 E1 vO vH (.slice none 0 0) ro rh [] O H wx ∧ Box wx w.heap.size [.int .i64 0, .string ⟨#[]⟩, .string ⟨#[]⟩, .int .i64 0, .string ⟨#[]⟩, .slice none 0 0, .int .i64 k] 48 ∧ Hid (cntP (linesW s) J wNote = (J1, E1, k)))
  case first =>
    rcases HC2.out with ⟨rfl, rfl, l, g, hwl, rfl, hbx⟩ | ⟨rfl, hE, hw⟩
    · obtain ⟨hI, hl2, hsz, -⟩ := words_sizes hwl
      obtain ⟨y0, y1, rfl⟩ := list2 hl2
      have HCT := Lib.hid (cntP_at hwl)
      have s1 := hsz y1 (by simp)
      clear hwl hl2 hsz HC2
      have p5c := hP2.bp.cell 0 rfl
      have p5l := hP2.bp.lt
      go_wp2_with fail
      have hd : Below w2.heap.size w2 w2.drew := by exact (by repeat (first | assumption | exact Below.refl _ _ | apply bw_alloc | apply bw_drew | apply bw_drewN | apply bw_later | apply bw_step))
      have hP3 := hP2.mono hd
      have bh3 := bh2.mono hd
      have hbx3 := hbx.mono hd
      refine wp_region_RC (S := fun w' => Box w' g [.string y0, .string y1] 9 ∧ w'.cell? ⟨p5, 0, none⟩ = some (.pointer (some ⟨rb, 0, none⟩))) 5 (by kernel_rfl) ⟨hbx3, hP3.bp.cell 0 rfl⟩ (by kernel_rfl) ?_
      generalize World.drew w2 = wd at *
      have hsome : Nonempty (Held (fun w' : World => Box w' g [.string y0, .string y1] 9 ∧ w'.cell? ⟨p5, 0, none⟩ = some (.pointer (some ⟨rb, 0, none⟩)))) := ⟨⟨wd, hbx3, hP3.bp.cell 0 rfl⟩⟩
      have hh : ∀ x : Held (fun w' : World => Box w' g [.string y0, .string y1] 9 ∧ w'.cell? ⟨p5, 0, none⟩ = some (.pointer (some ⟨rb, 0, none⟩))), Box x.W g [.string y0, .string y1] 9 ∧ x.W.cell? ⟨p5, 0, none⟩ = some (.pointer (some ⟨rb, 0, none⟩)) := fun x => x.h
      have q0 := fun x => (hh x).1.cell 1 rfl
      have ql := fun x => (hh x).1.lt
      have q2 := fun x => (hh x).2
      clear hh hP2 hbx bh2 hd p5c p5l
      refine RC.chunk (f := 1) [0, 1, 2, 3] (by kernel_rfl) ?_
      ((simp only [pickOps, List.filterMap, List.getElem?_toArray, List.getElem?_cons_zero, List.getElem?_cons_succ]); (repeat (go_big_quiet_step (fail))); refine wpQuiet_nil ?_)
      clear q0 q2 ql
      refine RC.single 4 rfl (by kernel_rfl) (by omega) ?_
      intro K2 hK2
      go_wp2_with fail
      refine (number_any y1 _ (hg.mono hP3.bel) hP3.rd (by omega)).mono ?_
      rintro e w4 ⟨k, E', rfl, hr4, hg4, hn4⟩
      have hP4 := hP3.turn hr4 hg4 (fun _ => rfl)
      have hbx4 := hbx3.grown hg4 (fun e => ne_of_types hbx3 hP3.rd.bx (by decide) (by injection e))
      have bh4 := bh3.grown hg4 (fun e => ne_of_types bh3 hP3.rd.bx (by decide) (by injection e))
      have HN4 := Lib.hid hn4
      go_wp2_with fail
      refine hK2 _ _ ⟨hbx4, hP4.bp.cell 0 rfl⟩ ?_
      clear hK2 hP3 hbx3 bh3 hr4 hg4 hn4 hbx4 hsome
      refine RC.tail (by kernel_rfl) ?_
      simp only [List.drop_succ_cons, List.drop_zero]
      have f0 := bh4.cell 6 rfl
      have ff := bh4.free 6
      have fl := bh4.lt
      have hP5 := hP4.boxedH bh4 HNB.out (grown_set w4 w.heap.size 6 (.int .i64 k)) hbl
      have bh5 := bh4.set 6 (.int .i64 k)
      go_upto_region 4 with fail
      generalize World.setCell _ _ _ = w5 at *
      clear hP4 bh4 f0 ff fl
      have p5c := hP5.bp.cell 0 rfl
      have p5l := hP5.bp.lt
      go_wp2_with fail
      by_cases hE : E' = 0
      · subst hE
        have HC : Hid (cntP (linesW s) J wNote = (J + 1, 0, k)) := by
          show _ = _
          rcases HN4.out with ⟨h, _⟩ | ⟨_, _, h⟩
          · rw [HCT.out, h]
          · omega
        refine (next_yes _ (hg.mono hP5.bel) (by omega) hP5.rd hI).mono ?_
        rintro e w8 ⟨rfl, hr8, hg8⟩
        have hP8 := hP5.turn hr8 hg8 (fun _ => rfl)
        have bh8 := bh5.grown hg8 (fun e => ne_of_types bh5 hP5.rd.bx (by decide) (by injection e))
        clear hP5 bh5 hr8 hg8
        go_wp2_with fail
        go_meet
        case rel => exact ⟨_, _, k, hP8, bh8, HC⟩
      · have HC : Hid (cntP (linesW s) J wNote = (J, E', k)) := by
          show _ = _
          rcases HN4.out with ⟨_, h⟩ | ⟨h, h1, h2⟩
          · exact absurd h hE
          · rw [HCT.out, h, h2, h1]
        refine (next_err _ hP5.rd hE).mono ?_
        rintro e w8 ⟨rfl, rfl⟩
        clear hE HN4
        go_wp2_with fail
        go_meet
        case rel => exact ⟨_, _, k, hP5, bh5, HC⟩
    · have HC : Hid (cntP (linesW s) J wNote = (J, E1, 0)) := by
        show _ = _
        rw [cntP_bad (by rw [hw]; exact hE), hw]
      clear HC2 hw hE
      go_wp2_with fail
      go_meet
      case rel => exact ⟨_, _, 0, hP2, bh2, HC⟩
  case rest =>
  clear hP2 bh2 HC2
  obtain ⟨J1, E2, k, hP, bh, HC⟩ := hcut
  have p5c := hP.bp.cell 0 rfl
  have p5l := hP.bp.lt
  have HFD := Lib.hid (finding_all (w0 := w0) (s := s) (rb := rb) (I := J1) (E := E2) _ hg hP.l1 hP.bel hs hP.rd)
  have HEZ : Hid ((fndT2 s J1 E2).2.1 = 0 → E2 = 0) := fun h => by
    unfold fndT2 at h
    by_cases hE : E2 = 0
    · exact hE
    · rw [if_neg hE] at h; exact h
  have HFI := Lib.hid (fun w' vH' r H2 => HFIN.out w' vH' r J1 E2 k H2 HC.out)
  generalize fndT2 s J1 E2 = T at *
  clear HFIN HC
  go_wp2_with fail
  refine HFD.out.mono ?_
  rintro e w3 ⟨⟨r, rfl, hrow⟩, hr3, hg3⟩
  have hP3 := hP.turn hr3 hg3 HEZ.out
  have bh3 := bh.grown hg3 (fun e => ne_of_types bh hP.rd.bx (by decide) (by injection e))
  have HROW : Hid (T.2.1 = 0 → RowF w0.heap.size w3 r T.2.2) := fun h => (hrow h).base hP.bel.size
  clear hP bh hr3 hg3 hrow HFD HEZ p5c p5l
  obtain ⟨bh4, hg4⟩ := store6H bh3 (.int .i64 r.kind) (.string r.plc.cls) (.string r.plc.mth) (.int .i64 r.plc.ins) (.string r.what) (.slice r.A r.n r.c)
  have hP4 := hP3.boxedH bh3 HNB.out hg4 hbl
  have HROW4 : Hid (T.2.1 = 0 → RowF w0.heap.size _ r T.2.2) := fun h => (HROW.out h).map (fun q => q.kept_box bh3 (by decide) hg4)
  have c0 := bh3.cell 0 rfl
  have c1 := bh3.cell 1 rfl
  have c2 := bh3.cell 2 rfl
  have c3 := bh3.cell 3 rfl
  have c4 := bh3.cell 4 rfl
  have c5 := bh3.cell 5 rfl
  have cf := fun i => bh3.free i
  have cl := bh3.lt
  go_upto_region 6 with fail
  generalize World.setCell _ _ _ = w4 at *
  clear hP3 bh3 c0 c1 c2 c3 c4 c5 cf cl hg4 HROW
  have c0 := bh4.cell 0 rfl
  have c1 := bh4.cell 1 rfl
  have c2 := bh4.cell 2 rfl
  have c3 := bh4.cell 3 rfl
  have c4 := bh4.cell 4 rfl
  have c5 := bh4.cell 5 rfl
  have c6 := bh4.cell 6 rfl
  have cl := bh4.lt
  have v1 := hP4.bx6.cell 1 rfl
  have vl := hP4.bx6.lt
  have hb5 : Below w4.heap.size w4 (w4.alloc (.cells (cellsRHdn ⟨r, k⟩).toArray 48)) := by exact (by repeat (first | assumption | exact Below.refl _ _ | apply bw_alloc | apply bw_drew | apply bw_drewN | apply bw_later | apply bw_step))
  have hP5 := hP4.mono hb5
  have HROW5 : Hid (T.2.1 = 0 → RowF w0.heap.size (w4.alloc (.cells (cellsRHdn ⟨r, k⟩).toArray 48)) r T.2.2) := fun h => (HROW4.out h).map (fun q => q.mono hb5)
  have bx5 := Box.new w4 (cellsRHdn ⟨r, k⟩) 48
  have hz5 : w0.heap.size ≤ (w4.alloc (.cells (cellsRHdn ⟨r, k⟩).toArray 48)).heap.size := hP5.bel.size
  go_wp2_with (at_builtin; refine wpList_pushG hdnsTy cellsRHdn_ok rfl (.tmp 23) (.tmp 25) rfl w0.heap.size vH rh rfl hP5.oH (⟨r, k⟩ : RHdn) _ _ rfl (fun j u hu => bx5.cell j hu) (by unfold maxLen; omega) (by omega) hz5 ?_)
  intro v' w6 ho6 hb6 hg6
  obtain ⟨A6, n6, c7, rfl⟩ := ho6.form3
  have hP6 := hP5.pushH (x := ⟨T.2.2, k⟩) (H2 := H ++ [⟨T.2.2, k⟩]) ho6 hg6 (fun h => ⟨HROW5.out h, rfl⟩) (fun _ => rfl)
  have b4 := hP5.bx6.grown hg6 (hP5.oH.ne_box hP5.bx6 (by decide))
  have HF := Lib.hid (HFI.out _ _ _ _ (fun _ => rfl) hP6)
  clear hP4 hP5 HROW4 HROW5 bx5 hz5 ho6 hb6 hg6 hP6 HFI bh4 c0 c1 c2 c3 c4 c5 c6 cl v1 vl
  have f0 := b4.cell 1 rfl
  have ff := b4.free 1
  have fl := b4.lt
  go_wp2_with fail
  go_end0
  exact ⟨rfl, HF.out⟩
end Go.Proofs.YtlcdnkloijehjaaGreatDoor

namespace Go.Proofs.YtlcdnkloijehjaaGreatDoor
open Go.RowKit
set_option linter.unusedVariables false

def Small (m : Nat) (L : List (List ByteArray)) : Prop := ∀ l ∈ L, ∀ x ∈ l, x.size ≤ m
theorem lines_small (s : ByteArray) : Small s.size (linesW s) := by
  intro l hl x hx
  obtain ⟨p, hp, rfl⟩ := List.mem_map.1 hl
  have h1 := lineW_size hx
  have h2 := spl_piece (List.dropLast_subset _ hp)
  rw [toL_len] at h2
  omega
section
variable {m : Nat} {L : List (List ByteArray)}
theorem wordsP_small (h : Small m L) (I : Nat) (nm : List UInt8) (n : Nat) (i : Nat) : (at0 (wordsP L I nm n).2 i).size ≤ m := by
  have key : ∀ l : List ByteArray, (∀ x ∈ l, x.size ≤ m) → (at0 l i).size ≤ m := fun l hl => by
    unfold at0
    rw [List.getD_eq_getElem?_getD]
    rcases Nat.lt_or_ge i l.length with hi | hi
    · rw [List.getElem?_eq_getElem hi]
      exact hl _ (List.getElem_mem hi)
    · rw [List.getElem?_eq_none hi]
      exact Nat.zero_le _
  unfold wordsP
  split
  · exact key [] (by simp)
  · rename_i l hl
    split
    · exact key l (h l (List.mem_of_getElem? hl))
    · exact key [] (by simp)
theorem cntP_le (L : List (List ByteArray)) (I : Nat) (nm : List UInt8) : 0 ≤ (cntP L I nm).2.2 ∧ (cntP L I nm).2.2 ≤ 1000000 := by
  unfold cntP
  split
  · split
    · rename_i n hn
      have := numP_iff.1 hn
      exact ⟨this.1, this.2.1⟩
    · exact ⟨Int.le_refl _, (by decide : (0 : Int) ≤ 1000000)⟩
  · exact ⟨Int.le_refl _, (by decide : (0 : Int) ≤ 1000000)⟩
def OkPl (m : Nat) (p : Plc) : Prop := p.cls.size ≤ m ∧ p.mth.size ≤ m
theorem viasP_small (h : Small m L) : ∀ (n I : Nat) (acc : List Plc), (∀ p ∈ acc, OkPl m p) → (∀ p ∈ (viasP L n I acc).2.2, OkPl m p) ∧ (viasP L n I acc).2.2.length ≤ acc.length + n
  | 0, I, acc, ha => ⟨ha, Nat.le_refl _⟩
  | n + 1, I, acc, ha => by
    unfold viasP
    split
    · split
      · rename_i a _
        have h1 := viasP_small h n (I + 1) (acc ++ [⟨at0 (wordsP L I wVia 4).2 1, at0 (wordsP L I wVia 4).2 2, a⟩]) (fun p hp => by
          rcases List.mem_append.1 hp with hp | hp
          · exact ha p hp
          · simp at hp
            subst hp
            exact ⟨wordsP_small h _ _ _ _, wordsP_small h _ _ _ _⟩)
        refine ⟨h1.1, ?_⟩
        have := h1.2
        rw [List.length_append] at this
        simp at this
        omega
      · exact ⟨ha, by simp⟩
    · exact ⟨ha, by simp⟩
def OkFn (m : Nat) (f : Fnd) : Prop := OkPl m f.plc ∧ f.what.size ≤ m ∧ f.path.length ≤ 1000000 ∧ ∀ p ∈ f.path, OkPl m p
theorem fnd0_small (m : Nat) : OkFn m fnd0 := ⟨⟨Nat.zero_le _, Nat.zero_le _⟩, Nat.zero_le _, Nat.zero_le _, fun p hp => by simp [fnd0] at hp⟩
theorem findP_small (h : Small m L) (I : Nat) : OkFn m (findP L I).2.2 := by
  unfold findP
  split
  · split
    · exact fnd0_small m
    · split
      · rename_i a n ha hn
        have h1 := viasP_small h n.toNat (I + 1) [] (fun p hp => by simp at hp)
        have h2 := numP_iff.1 hn
        refine ⟨⟨wordsP_small h _ _ _ _, wordsP_small h _ _ _ _⟩, wordsP_small h _ _ _ _, ?_, h1.1⟩
        have := h1.2
        simp only [List.length_nil, Nat.zero_add] at this
        show (viasP L n.toNat (I + 1) []).2.2.length ≤ _
        omega
      · exact fnd0_small m
  · exact fnd0_small m
theorem opnP_small (h : Small m L) : ∀ (n I : Nat) (acc : List Fnd), (∀ f ∈ acc, OkFn m f) → (∀ f ∈ (opnP L n I acc).2.2, OkFn m f) ∧ (opnP L n I acc).2.2.length ≤ acc.length + n
  | 0, I, acc, ha => ⟨ha, Nat.le_refl _⟩
  | n + 1, I, acc, ha => by
    unfold opnP
    split
    · have h1 := opnP_small h n (findP L I).1 (acc ++ [(findP L I).2.2]) (fun p hp => by
        rcases List.mem_append.1 hp with hp | hp
        · exact ha p hp
        · simp at hp
          subst hp
          exact findP_small h I)
      refine ⟨h1.1, ?_⟩
      have := h1.2
      rw [List.length_append] at this
      simp at this
      omega
    · exact ⟨ha, by simp⟩
theorem hdn1_small (h : Small m L) (I : Nat) : OkFn m (hdn1 L I).2.2.f := by
  unfold hdn1
  split
  · exact findP_small h _
  · exact fnd0_small m
theorem hdnP_small (h : Small m L) : ∀ (n I : Nat) (acc : List Hdn), (∀ f ∈ acc, OkFn m f.f) → (∀ f ∈ (hdnP L n I acc).2.2, OkFn m f.f) ∧ (hdnP L n I acc).2.2.length ≤ acc.length + n
  | 0, I, acc, ha => ⟨ha, Nat.le_refl _⟩
  | n + 1, I, acc, ha => by
    unfold hdnP
    split
    · have h1 := hdnP_small h n (hdn1 L I).1 (acc ++ [(hdn1 L I).2.2]) (fun p hp => by
        rcases List.mem_append.1 hp with hp | hp
        · exact ha p hp
        · simp at hp
          subst hp
          exact hdn1_small h I)
      refine ⟨h1.1, ?_⟩
      have := h1.2
      rw [List.length_append] at this
      simp at this
      omega
    · exact ⟨ha, by simp⟩
theorem unsP_len : ∀ (n I : Nat) (acc : List Int), (unsP L n I acc).2.2.length ≤ acc.length + n
  | 0, I, acc => Nat.le_refl _
  | n + 1, I, acc => by
    unfold unsP
    split
    · have := unsP_len n (cntP L I wIdx).1 (acc ++ [(cntP L I wIdx).2.2])
      rw [List.length_append] at this
      simp at this
      omega
    · simp
end
theorem okFn_ok {m : Nat} {f : Fnd} (h : OkFn m f) (hm : m ≤ 9223372036854775807) : OkFnd f :=
  ⟨⟨Nat.le_trans h.1.1 hm, Nat.le_trans h.1.2 hm⟩, Nat.le_trans h.2.1 hm, Nat.le_trans h.2.2.1 (by omega), fun p hp => ⟨Nat.le_trans (h.2.2.2 p hp).1 hm, Nat.le_trans (h.2.2.2 p hp).2 hm⟩⟩
theorem par_ok (s : ByteArray) (hs : s.size ≤ 9223372036854775807) : OkRpt ⟨(sec1 (linesW s)).2.2, (sec2 (linesW s)).2.2, (sec3 (linesW s)).2.2⟩ := by
  have hS := lines_small s
  have k1 : (∀ f ∈ (sec1 (linesW s)).2.2, OkFn s.size f) ∧ (sec1 (linesW s)).2.2.length ≤ 1000000 := by
    unfold sec1 secP
    split
    · have h1 := opnP_small hS (cntP (linesW s) 0 wOpn).2.2.toNat (cntP (linesW s) 0 wOpn).1 [] (fun f hf => by simp at hf)
      have h2 := cntP_le (linesW s) 0 wOpn
      refine ⟨h1.1, ?_⟩
      have := h1.2
      simp only [List.length_nil, Nat.zero_add] at this
      omega
    · exact ⟨fun f hf => by simp at hf, Nat.zero_le _⟩
  have k2 : (∀ f ∈ (sec2 (linesW s)).2.2, OkFn s.size f.f) ∧ (sec2 (linesW s)).2.2.length ≤ 1000000 := by
    unfold sec2 secP
    split
    · have h1 := hdnP_small hS (cntP (linesW s) (sec1 (linesW s)).1 wHdn).2.2.toNat (cntP (linesW s) (sec1 (linesW s)).1 wHdn).1 [] (fun f hf => by simp at hf)
      have h2 := cntP_le (linesW s) (sec1 (linesW s)).1 wHdn
      refine ⟨h1.1, ?_⟩
      have := h1.2
      simp only [List.length_nil, Nat.zero_add] at this
      omega
    · exact ⟨fun f hf => by simp at hf, Nat.zero_le _⟩
  have k3 : (sec3 (linesW s)).2.2.length ≤ 1000000 := by
    unfold sec3 secP
    split
    · have h1 := unsP_len (L := linesW s) (cntP (linesW s) (sec2 (linesW s)).1 wUns).2.2.toNat (cntP (linesW s) (sec2 (linesW s)).1 wUns).1 []
      have h2 := cntP_le (linesW s) (sec2 (linesW s)).1 wUns
      simp only [List.length_nil, Nat.zero_add] at h1
      omega
    · exact Nat.zero_le _
  exact ⟨Nat.le_trans k1.2 (by omega), Nat.le_trans k2.2 (by omega), Nat.le_trans k3 (by omega), fun f hf => okFn_ok (k1.1 f hf) hs, fun f hf => okFn_ok (k2.1 f hf) hs⟩
theorem sfx_nil {s : ByteArray} {J : Nat} (hJ : J ≤ (linesW s).length) : sfx s J = [] ↔ ¬ (J < (linesW s).length ∨ restN s ≠ []) := by
  rcases Nat.lt_or_ge J (linesW s).length with h | h
  · obtain ⟨x, _, hc, _⟩ := cut_due h
    constructor
    · intro e
      rw [e] at hc
      have h2 : Lib.cut [] [10] = ([], [], false) := cut_free (by simp)
      rw [h2] at hc
      injection hc with _ hc
      injection hc with _ hc
      cases hc
    · intro e; exact absurd (Or.inl h) e
  · obtain rfl : J = (linesW s).length := by omega
    rw [(cut_end rfl).2.2]
    simp
/-- The three rows of a report as data. -/
theorem RowsF.sl {B : Nat} {w : World} {v : Value} {ro : List RFnd} {O : List Fnd} (h : RowsF B w ro O) (ho : Own cellsRFnd 6 B 46 w v ro) : ∃ A c, v = .slice A O.length c ∧ O.length ≤ c ∧ Sl Lay.fnd w A O :=
  ho.slR (M := Lay.fnd) cellsRFnd_ok rfl h.len (fun i x y h1 h2 => (h.each i x y h1 h2).rep)
theorem RowsH.sl {B : Nat} {w : World} {v : Value} {rh : List RHdn} {H : List Hdn} (h : RowsH B w rh H) (ho : Own cellsRHdn 7 B 48 w v rh) : ∃ A c, v = .slice A H.length c ∧ H.length ≤ c ∧ Sl Lay.hdn w A H :=
  ho.slR (M := Lay.hdn) cellsRHdn_ok rfl h.len (fun i x y h1 h2 => by
    obtain ⟨h3, h4⟩ := h.each i x y h1 h2
    refine ⟨cellsRFnd x.f, ?_, h3.rep⟩
    rw [← h4]
    rfl)
end Go.Proofs.YtlcdnkloijehjaaGreatDoor

namespace Go.Proofs.YtlcdnkloijehjaaGreatDoor
open Go.RowKit
set_option linter.unusedVariables false

theorem egP1 : ∀ args w, (callFunc 43 args).run Tryz.prog w = .ok (.enter 43 args) w := enters_of (fn := Tryz.f43) (by kernel_rfl) (by kernel_rfl) rfl
theorem egP2 : ∀ args w, (callFunc 45 args).run Tryz.prog w = .ok (.enter 45 args) w := enters_of (fn := Tryz.f45) (by kernel_rfl) (by kernel_rfl) rfl
theorem egP3 : ∀ args w, (callFunc 49 args).run Tryz.prog w = .ok (.enter 49 args) w := enters_of (fn := Tryz.f49) (by kernel_rfl) (by kernel_rfl) rfl
/-- What Parse returns. -/
def RetP (T : Rpt × Int × Int) (w' : World) (e : Ending) : Prop := ∃ A0 c0 A1 c1 A2 c2, e = .returned (.tuple #[.agg #[.slice A0 T.1.opn.length c0, .slice A1 T.1.hdn.length c1, .slice A2 T.1.uns.length c2], .int .i64 T.2.1, .int .i64 T.2.2]) ∧ T.1.opn.length ≤ c0 ∧ T.1.hdn.length ≤ c1 ∧ T.1.uns.length ≤ c2 ∧ Sl Lay.fnd w' A0 T.1.opn ∧ Sl Lay.hdn w' A1 T.1.hdn ∧ Sl Lay.int w' A2 T.1.uns
theorem RetP.zero (l c : Int) (w' : World) : RetP (rpt0, l, c) w' (.returned (.tuple #[.agg #[.slice none 0 0, .slice none 0 0, .slice none 0 0], .int .i64 l, .int .i64 c])) := ⟨none, 0, none, 0, none, 0, rfl, Nat.le_refl _, Nat.le_refl _, Nat.le_refl _, Sl.nil, Sl.nil, Sl.nil⟩
theorem secP_bad {α : Type} {L : List (List ByteArray)} {nm : List UInt8} {el : Nat → Nat → List α → Nat × Int × List α} {I J : Nat} {E : Int} (h : cntP L I nm = (J, E, 0)) (hE : E ≠ 0) : secP L nm el I = (J, E, []) := by
  unfold secP
  rw [h]
  simp only [if_neg hE]
theorem secP_ok {α : Type} {L : List (List ByteArray)} {nm : List UInt8} {el : Nat → Nat → List α → Nat × Int × List α} {I J : Nat} {n : Int} (h : cntP L I nm = (J, 0, n)) : secP L nm el I = el n.toNat J [] := by
  unfold secP
  rw [h]
  simp only [if_pos]
theorem cnt_toNat {L : List (List ByteArray)} {I J : Nat} {nm : List UInt8} {n : Int} (h : cntP L I nm = (J, 0, n)) : n.toNat ≤ 1000000 := by
  have := cntP_le L I nm
  rw [h] at this
  simp only at this
  omega
theorem store3R {w : World} {b : Nat} (h : Box w b [.slice none 0 0, .slice none 0 0, .slice none 0 0] 26) (v0 v1 v2 : Value) :
    Box (((w.setCell ⟨b, 0, none⟩ v0).setCell ⟨b, 1, none⟩ v1).setCell ⟨b, 2, none⟩ v2) b [v0, v1, v2] 26 ∧ w.grownBy (((w.setCell ⟨b, 0, none⟩ v0).setCell ⟨b, 1, none⟩ v1).setCell ⟨b, 2, none⟩ v2) (some b) := Box.store3 h v0 v1 v2
/-- The state of the reader behind the sections, whatever else. -/
structure PE (w0 : World) (s : ByteArray) (rb p5 b2 J : Nat) (E : Int) (w : World) : Prop where
  rd : RdS s rb J E w
  bp : Box w p5 [.pointer (some ⟨rb, 0, none⟩)] 74
  bx2 : Box w b2 [.slice none 0 0, .slice none 0 0, .slice none 0 0] 26
  bel : Below w0.heap.size w0 w
  l2 : w0.heap.size ≤ b2
/-- Behind the first section, the second, the third. -/
def A1 (w : World) (s : ByteArray) (T : Rpt × Int × Int) (w' : World) : Prop := ∃ J E, PE w s (w.heap.size + 1) (w.heap.size + 2) w.heap.size J E w' ∧
  ((E = 0 ∧ ∃ vO ro O, PW w s (w.heap.size + 1) (w.heap.size + 2) (w.heap.size + 3) J 0 vO (.slice none 0 0) (.slice none 0 0) ro [] [] O [] w' ∧ sec1 (linesW s) = (J, 0, O)) ∨ (E ≠ 0 ∧ T = (rpt0, (J : Int) + 1, E)))
def A2 (w : World) (s : ByteArray) (T : Rpt × Int × Int) (w' : World) : Prop := ∃ J E, PE w s (w.heap.size + 1) (w.heap.size + 2) w.heap.size J E w' ∧
  ((E = 0 ∧ ∃ vO ro O vH rh H, PW w s (w.heap.size + 1) (w.heap.size + 2) (w.heap.size + 3) J 0 vO vH (.slice none 0 0) ro rh [] O H w' ∧ (sec1 (linesW s)).2 = (0, O) ∧ sec2 (linesW s) = (J, 0, H)) ∨ (E ≠ 0 ∧ T = (rpt0, (J : Int) + 1, E)))
def A3 (w : World) (s : ByteArray) (T : Rpt × Int × Int) (w' : World) : Prop := ∃ J E, PE w s (w.heap.size + 1) (w.heap.size + 2) w.heap.size J E w' ∧
  ((E = 0 ∧ ∃ vO ro O vH rh H vU U, PW w s (w.heap.size + 1) (w.heap.size + 2) (w.heap.size + 3) J 0 vO vH vU ro rh U O H w' ∧ (sec1 (linesW s)).2 = (0, O) ∧ (sec2 (linesW s)).2 = (0, H) ∧ sec3 (linesW s) = (J, 0, U)) ∨ (E ≠ 0 ∧ T = (rpt0, (J : Int) + 1, E)))
theorem PW.pe {w : World} {s : ByteArray} {rb p5 b6 J : Nat} {E : Int} {vO vH vU : Value} {ro : List RFnd} {rh : List RHdn} {U : List Int} {O : List Fnd} {H : List Hdn} {w' : World} (h : PW w s rb p5 b6 J E vO vH vU ro rh U O H w') (h2 : w.heap.size ≤ b6 - 3) : PE w s rb p5 (b6 - 3) J E w' := ⟨h.rd, h.bp, h.bx2, h.bel, h2⟩
set_option maxHeartbeats 4000000 in
theorem sect1 (s : ByteArray) (w w1 : World) (T : Rpt × Int × Int) (hg : Glp w) (hs : s.size ≤ 1500000) (HTL : Hid (T = parL (linesW s) (decide (restN s ≠ []))))
    (hP1 : PW w s (w.heap.size + 1) (w.heap.size + 2) (w.heap.size + 3) 0 0 (.slice none 0 0) (.slice none 0 0) (.slice none 0 0) [] [] [] [] [] w1) :
    Calls Tryz.prog 42 #[.pointer (some ⟨w.heap.size + 1, 0, none⟩), .string ⟨#[111, 112, 101, 110]⟩, .func (.func 43) #[] #[.pointer (some ⟨w.heap.size + 3, 0, none⟩), .pointer (some ⟨w.heap.size + 2, 0, none⟩)]] w1 fun e w' => e = .returned (.tuple #[]) ∧ A1 w s T w' := by
  refine (secRd_any (w0 := w) (s := s) (rb := w.heap.size + 1) (I := 0) 43 #[.pointer (some ⟨w.heap.size + 3, 0, none⟩), .pointer (some ⟨w.heap.size + 2, 0, none⟩)] egP1 ⟨#[111, 112, 101, 110]⟩ _ hg hs
    (fun J E w' => PW w s (w.heap.size + 1) (w.heap.size + 2) (w.heap.size + 3) J E (.slice none 0 0) (.slice none 0 0) (.slice none 0 0) [] [] [] [] [] w') (QO w s (w.heap.size + 1) (w.heap.size + 2) (w.heap.size + 3) (sec1 (linesW s)))
    (Lib.hid (fun J E w' h => ⟨h.rd, h.bel⟩)) (Lib.hid (fun J E w' w'' h hb => h.mono hb)) (Lib.hid (fun J w' J' E' w'' h hr hg => h.turn hr hg (fun _ => rfl)))
    (Lib.hid (fun n w' hc h => ⟨_, _, _, h, Or.inl ⟨rfl, (secP_ok hc).symm⟩, by have := cnt_toNat hc; simp; omega⟩)) (Lib.hid (fun J E w' hc hE h => ⟨_, _, _, h, Or.inr ⟨hE, by unfold sec1; rw [show wOpn = toL ⟨#[111, 112, 101, 110]⟩ from rfl, secP_bad hc hE], by unfold sec1; rw [show wOpn = toL ⟨#[111, 112, 101, 110]⟩ from rfl, secP_bad hc hE]⟩, by simp⟩))
    (Lib.hid (fun m J E w' ⟨_, _, _, h, _⟩ => h.rd)) (Lib.hid (fun m J w' hm h => elO hg hs m J w' hm h)) hP1).mono ?_
  rintro e w2 ⟨rfl, m1, J1, E1, ⟨vO, ro, O, hP2, hS1, -⟩, hm1⟩
  refine ⟨rfl, J1, E1, hP2.pe (by omega), ?_⟩
  rcases hS1 with ⟨rfl, h⟩ | ⟨hE, h1, h2⟩
  · obtain rfl := hm1 rfl
    exact Or.inl ⟨rfl, vO, ro, O, hP2, h.symm⟩
  · refine Or.inr ⟨hE, ?_⟩
    rw [HTL.out]
    unfold parL
    rw [if_pos (by rw [h2]; exact hE), h1, h2]
set_option maxHeartbeats 4000000 in
theorem sect2 (s : ByteArray) (w w1 : World) (T : Rpt × Int × Int) (hg : Glp w) (hs : s.size ≤ 1500000) (HTL : Hid (T = parL (linesW s) (decide (restN s ≠ [])))) (hA : A1 w s T w1) :
    Calls Tryz.prog 42 #[.pointer (some ⟨w.heap.size + 1, 0, none⟩), .string ⟨#[104, 105, 100, 100, 101, 110]⟩, .func (.func 45) #[] #[.pointer (some ⟨w.heap.size + 2, 0, none⟩), .pointer (some ⟨w.heap.size + 3, 0, none⟩)]] w1 fun e w' => e = .returned (.tuple #[]) ∧ A2 w s T w' := by
  obtain ⟨J0, E0, hPE, hA⟩ := hA
  rcases hA with ⟨rfl, vO, ro, O, hP1, hS1⟩ | ⟨hE, hT⟩
  · have hJ0 : (sec1 (linesW s)).1 = J0 := by rw [hS1]
    refine (secRd_any (w0 := w) (s := s) (rb := w.heap.size + 1) (I := J0) 45 #[.pointer (some ⟨w.heap.size + 2, 0, none⟩), .pointer (some ⟨w.heap.size + 3, 0, none⟩)] egP2 ⟨#[104, 105, 100, 100, 101, 110]⟩ _ hg hs
      (fun J E w' => PW w s (w.heap.size + 1) (w.heap.size + 2) (w.heap.size + 3) J E vO (.slice none 0 0) (.slice none 0 0) ro [] [] O [] w') (QH w s (w.heap.size + 1) (w.heap.size + 2) (w.heap.size + 3) vO ro O (sec2 (linesW s)))
      (Lib.hid (fun J E w' h => ⟨h.rd, h.bel⟩)) (Lib.hid (fun J E w' w'' h hb => h.mono hb)) (Lib.hid (fun J w' J' E' w'' h hr hg => h.turn hr hg (fun _ => rfl)))
      (Lib.hid (fun n w' hc h => ⟨_, _, _, h, Or.inl ⟨rfl, by unfold sec2; rw [hJ0]; exact (secP_ok hc).symm⟩, by have := cnt_toNat hc; simp; omega⟩)) (Lib.hid (fun J E w' hc hE h => ⟨_, _, _, h, Or.inr ⟨hE, by unfold sec2; rw [hJ0, show wHdn = toL ⟨#[104, 105, 100, 100, 101, 110]⟩ from rfl, secP_bad hc hE], by unfold sec2; rw [hJ0, show wHdn = toL ⟨#[104, 105, 100, 100, 101, 110]⟩ from rfl, secP_bad hc hE]⟩, by simp⟩))
      (Lib.hid (fun m J E w' ⟨_, _, _, h, _⟩ => h.rd)) (Lib.hid (fun m J w' hm h => elH hg hs m J w' hm h)) hP1).mono ?_
    rintro e w2 ⟨rfl, m1, J1, E1, ⟨vH, rh, H, hP2, hS2, -⟩, hm1⟩
    refine ⟨rfl, J1, E1, hP2.pe (by omega), ?_⟩
    rcases hS2 with ⟨rfl, h⟩ | ⟨hE, h1, h2⟩
    · obtain rfl := hm1 rfl
      exact Or.inl ⟨rfl, vO, ro, O, vH, rh, H, hP2, by rw [hS1], h.symm⟩
    · refine Or.inr ⟨hE, ?_⟩
      rw [HTL.out]
      unfold parL
      rw [if_neg (by rw [hS1]; simp), if_pos (by rw [h2]; exact hE), h1, h2]
  · refine (secRd_err _ _ _ hPE.rd hE).mono ?_
    rintro e w2 ⟨rfl, rfl⟩
    exact ⟨rfl, J0, E0, hPE, Or.inr ⟨hE, hT⟩⟩
set_option maxHeartbeats 4000000 in
theorem sect3 (s : ByteArray) (w w1 : World) (T : Rpt × Int × Int) (hg : Glp w) (hs : s.size ≤ 1500000) (HTL : Hid (T = parL (linesW s) (decide (restN s ≠ [])))) (hA : A2 w s T w1) :
    Calls Tryz.prog 42 #[.pointer (some ⟨w.heap.size + 1, 0, none⟩), .string ⟨#[117, 110, 117, 115, 101, 100]⟩, .func (.func 49) #[] #[.pointer (some ⟨w.heap.size + 2, 0, none⟩), .pointer (some ⟨w.heap.size + 3, 0, none⟩)]] w1 fun e w' => e = .returned (.tuple #[]) ∧ A3 w s T w' := by
  obtain ⟨J0, E0, hPE, hA⟩ := hA
  rcases hA with ⟨rfl, vO, ro, O, vH, rh, H, hP1, hS1, hS2⟩ | ⟨hE, hT⟩
  · have hJ0 : (sec2 (linesW s)).1 = J0 := by rw [hS2]
    refine (secRd_any (w0 := w) (s := s) (rb := w.heap.size + 1) (I := J0) 49 #[.pointer (some ⟨w.heap.size + 2, 0, none⟩), .pointer (some ⟨w.heap.size + 3, 0, none⟩)] egP3 ⟨#[117, 110, 117, 115, 101, 100]⟩ _ hg hs
      (fun J E w' => PW w s (w.heap.size + 1) (w.heap.size + 2) (w.heap.size + 3) J E vO vH (.slice none 0 0) ro rh [] O H w') (QU w s (w.heap.size + 1) (w.heap.size + 2) (w.heap.size + 3) vO vH ro rh O H (sec3 (linesW s)))
      (Lib.hid (fun J E w' h => ⟨h.rd, h.bel⟩)) (Lib.hid (fun J E w' w'' h hb => h.mono hb)) (Lib.hid (fun J w' J' E' w'' h hr hg => h.turn hr hg (fun _ => rfl)))
      (Lib.hid (fun n w' hc h => ⟨_, _, h, Or.inl ⟨rfl, by unfold sec3; rw [hJ0]; exact (secP_ok hc).symm⟩, by have := cnt_toNat hc; simp; omega⟩)) (Lib.hid (fun J E w' hc hE h => ⟨_, _, h, Or.inr ⟨hE, by unfold sec3; rw [hJ0, show wUns = toL ⟨#[117, 110, 117, 115, 101, 100]⟩ from rfl, secP_bad hc hE], by unfold sec3; rw [hJ0, show wUns = toL ⟨#[117, 110, 117, 115, 101, 100]⟩ from rfl, secP_bad hc hE]⟩, by simp⟩))
      (Lib.hid (fun m J E w' ⟨_, _, h, _⟩ => h.rd)) (Lib.hid (fun m J w' hm h => elU hg hs m J w' hm h)) hP1).mono ?_
    rintro e w2 ⟨rfl, m1, J1, E1, ⟨vU, U, hP2, hS3, -⟩, hm1⟩
    refine ⟨rfl, J1, E1, hP2.pe (by omega), ?_⟩
    rcases hS3 with ⟨rfl, h⟩ | ⟨hE, h1, h2⟩
    · obtain rfl := hm1 rfl
      exact Or.inl ⟨rfl, vO, ro, O, vH, rh, H, vU, U, hP2, hS1, by rw [hS2], h.symm⟩
    · refine Or.inr ⟨hE, ?_⟩
      rw [HTL.out]
      unfold parL
      rw [if_neg (by rw [hS1]; simp), if_neg (by rw [hS2]; simp), if_pos (by rw [h2]; exact hE), h1, h2]
  · refine (secRd_err _ _ _ hPE.rd hE).mono ?_
    rintro e w2 ⟨rfl, rfl⟩
    exact ⟨rfl, J0, E0, hPE, Or.inr ⟨hE, hT⟩⟩
theorem PE.mono {w0 : World} {s : ByteArray} {rb p5 b2 J : Nat} {E : Int} {w w' : World} (h : PE w0 s rb p5 b2 J E w) (hb : Below w.heap.size w w') : PE w0 s rb p5 b2 J E w' := ⟨h.rd.mono hb, h.bp.mono hb, h.bx2.mono hb, below_step h.bel hb, h.l2⟩
theorem PW.forms {w0 : World} {s : ByteArray} {rb p5 b6 J : Nat} {vO vH vU : Value} {ro : List RFnd} {rh : List RHdn} {U : List Int} {O : List Fnd} {H : List Hdn} {w : World} (h : PW w0 s rb p5 b6 J 0 vO vH vU ro rh U O H w) :
    (∃ A c, vO = .slice A O.length c ∧ O.length ≤ c ∧ Sl Lay.fnd w A O) ∧ (∃ A c, vH = .slice A H.length c ∧ H.length ≤ c ∧ Sl Lay.hdn w A H) ∧ (∃ A c, vU = .slice A U.length c ∧ U.length ≤ c ∧ Sl Lay.int w A U) :=
  ⟨(h.rO rfl).sl h.oO, (h.rH rfl).sl h.oH, h.oU.sl (L := Lay.int) rfl (fun _ => rfl)⟩
theorem PW.out {w0 : World} {s : ByteArray} {rb p5 b6 J : Nat} {A0 A1 A2 : Option Addr} {n0 n1 n2 c0 c1 c2 : Nat} {ro : List RFnd} {rh : List RHdn} {U : List Int} {O : List Fnd} {H : List Hdn} {w w' : World} (h : PW w0 s rb p5 b6 J 0 (.slice A0 n0 c0) (.slice A1 n1 c1) (.slice A2 n2 c2) ro rh U O H w) (hg : w.grownBy w' (some (b6 - 3))) :
    Sl Lay.fnd w' A0 O ∧ Sl Lay.hdn w' A1 H ∧ Sl Lay.int w' A2 U := by
  obtain ⟨A, c, e, _, h1⟩ := ((h.rO rfl).map (w' := w') (fun _ _ k => k.kept_box h.bx2 (by decide) hg)).sl (h.oO.kept_box h.bx2 (by decide) hg)
  obtain ⟨A', c', e', _, h2⟩ := ((h.rH rfl).map (w' := w') (fun _ _ k => k.kept_box h.bx2 (by decide) hg)).sl (h.oH.kept_box h.bx2 (by decide) hg)
  obtain ⟨A'', c'', e'', _, h3⟩ := (h.oU.kept_box h.bx2 (by decide) hg).sl (L := Lay.int) rfl (fun _ => rfl)
  injection e with e1
  injection e' with e2
  injection e'' with e3
  subst e1 e2 e3
  exact ⟨h1, h2, h3⟩
set_option maxHeartbeats 16000000 in
set_option maxRecDepth 100000 in
theorem rptParse_any (s : ByteArray) (w : World) (hg : Glp w) (hs : s.size ≤ 9223372036854775807) :
    Calls Tryz.prog 15 #[.string s] w fun e w' => RetP (parR s) w' e ∧ Below w.heap.size w w' := by
  obtain ⟨T, HT⟩ : ∃ T, Hid (T = parR s) := ⟨_, Lib.hid rfl⟩
  rw [← HT.out]
  by_cases hbig : 1048576 < s.size
  · have HTB : Hid (T = (rpt0, 0, 3)) := by show _ = _; rw [HT.out]; unfold parR; rw [if_pos hbig]
    have hb' : 1048576 < (s.size : Int) := by omega
    go_enter Tryz.func15, Tryz.ntmps15
    go_wp2_with fail
    refine bodyPost_ret (v := .tuple #[.agg #[.slice none 0 0, .slice none 0 0, .slice none 0 0], .int .i64 0, .int .i64 3]) (by simp [results, Tryz.results15, go_sem]) rfl ⟨by rw [HTB.out]; exact RetP.zero 0 3 _, by exact (by repeat (first | assumption | exact Below.refl _ _ | apply bw_alloc | apply bw_drew | apply bw_drewN | apply bw_later | apply bw_step))⟩
  have hb' : ¬ 1048576 < (s.size : Int) := by omega
  have hs2 : s.size ≤ 1500000 := by omega
  have HTL : Hid (T = parL (linesW s) (decide (restN s ≠ []))) := by show _ = _; rw [HT.out]; unfold parR; rw [if_neg hbig]
  clear HT hbig
  generalize hW0 : (((w.alloc (.cells #[.slice none 0 0, .slice none 0 0, .slice none 0 0] 26)).alloc (.cells #[.string s, .int .i64 1, .int .i64 0] 76)).alloc (.cells #[.pointer (some ⟨w.heap.size + 1, 0, none⟩)] 74)).alloc (.cells #[.slice none 0 0, .slice none 0 0, .slice none 0 0] 26) = w1
  have hb1 : Below w.heap.size w w1 := by rw [← hW0]; exact (by repeat (first | assumption | exact Below.refl _ _ | apply bw_alloc | apply bw_drew | apply bw_drewN | apply bw_later | apply bw_step))
  have x2 : Box w1 w.heap.size [.slice none 0 0, .slice none 0 0, .slice none 0 0] 26 := by rw [← hW0]; exact (((Box.new _ _ _).alloc _).alloc _).alloc _
  have xr : Box w1 (w.heap.size + 1) [.string s, .int .i64 1, .int .i64 0] 76 := by rw [← hW0]; exact ((Box.at (by simp)).alloc _).alloc _
  have xp : Box w1 (w.heap.size + 2) [.pointer (some ⟨w.heap.size + 1, 0, none⟩)] 74 := by rw [← hW0]; exact (Box.at (by simp)).alloc _
  have x6 : Box w1 (w.heap.size + 3) [.slice none 0 0, .slice none 0 0, .slice none 0 0] 26 := by rw [← hW0]; exact Box.at (by simp)
  have hrd : RdS s (w.heap.size + 1) 0 0 w1 := ⟨by rw [sfx_zero, show bsOf (toL s) = s from mk_toL s]; exact xr, Nat.zero_le _⟩
  have hP1 : PW w s (w.heap.size + 1) (w.heap.size + 2) (w.heap.size + 3) 0 0 (.slice none 0 0) (.slice none 0 0) (.slice none 0 0) [] [] [] [] [] w1 :=
    ⟨hrd, xp, x6, Own.nil, Own.nil, Own.nil, fun _ => ⟨rfl, fun i r x h => by simp at h⟩, fun _ => ⟨rfl, fun i r x h => by simp at h⟩, hb1, by omega, by omega, by omega, x2, by omega⟩
  clear hb1 x2 xr xp x6 hrd
  go_enter Tryz.func15, Tryz.ntmps15
  go_upto_region 5 with fail
  clear hW0
  have c5 := hP1.bp.cell 0 rfl
  have l5 := hP1.bp.lt
  go_wp2_with fail
  refine (sect1 s w _ T hg hs2 HTL hP1).mono ?_
  rintro e w2 ⟨rfl, hA1⟩
  have c5' := hA1
  obtain ⟨J1, E1, hPE1, -⟩ := c5'
  clear hP1 c5 l5
  have c5 := hPE1.bp.cell 0 rfl
  have l5 := hPE1.bp.lt
  go_wp2_with fail
  refine (sect2 s w _ T hg hs2 HTL hA1).mono ?_
  rintro e w3 ⟨rfl, hA2⟩
  have c5' := hA2
  obtain ⟨J2, E2, hPE2, -⟩ := c5'
  clear hPE1 c5 l5 hA1
  have c5 := hPE2.bp.cell 0 rfl
  have l5 := hPE2.bp.lt
  go_wp2_with fail
  refine (sect3 s w _ T hg hs2 HTL hA2).mono ?_
  rintro e w4 ⟨rfl, J, E, hPE, hA3⟩
  clear hPE2 c5 l5 hA2
  have c5 := hPE.bp.cell 0 rfl
  have l5 := hPE.bp.lt
  have r0 := hPE.rd.bx.cell 0 rfl
  have r1 := hPE.rd.bx.cell 1 rfl
  have r2 := hPE.rd.bx.cell 2 rfl
  have rl := hPE.rd.bx.lt
  rcases hA3 with ⟨rfl, hA3⟩ | ⟨hE, hT⟩
  · obtain ⟨vO, ro, O, vH, rh, H, vU, U, hP, hS1, hS2, hS3⟩ := hA3
    have e1 : (sec1 (linesW s)).2.1 = 0 ∧ (sec1 (linesW s)).2.2 = O := by rw [hS1]; exact ⟨rfl, rfl⟩
    have e2 : (sec2 (linesW s)).2.1 = 0 ∧ (sec2 (linesW s)).2.2 = H := by rw [hS2]; exact ⟨rfl, rfl⟩
    have e3 : (sec3 (linesW s)).1 = J ∧ (sec3 (linesW s)).2.1 = 0 ∧ (sec3 (linesW s)).2.2 = U := by rw [hS3]; exact ⟨rfl, rfl, rfl⟩
    have HOK := Lib.hid (par_ok s hs)
    rw [e1.2, e2.2, e3.2.2] at HOK
    have HTL2 : Hid (T = if J < (linesW s).length ∨ restN s ≠ [] then (rpt0, (J : Int) + 1, 2) else if rptE ⟨O, H, U⟩ ≠ 0 then (rpt0, 0, rptE ⟨O, H, U⟩) else (⟨O, H, U⟩, 0, 0)) := by
      show _ = _
      rw [HTL.out]
      unfold parL
      rw [e1.1, e1.2, e2.1, e2.2, e3.1, e3.2.1, e3.2.2, if_neg (by simp), if_neg (by simp), if_neg (by simp)]
      simp only [decide_eq_true_eq]
    have HSN := Lib.hid (sfx_nil hPE.rd.le)
    clear HTL hS1 hS2 hS3 e1 e2 e3
    by_cases ht : sfx s J = []
    · have HT3 : Hid (T = if rptE ⟨O, H, U⟩ ≠ 0 then (rpt0, 0, rptE ⟨O, H, U⟩) else (⟨O, H, U⟩, 0, 0)) := by show _ = _; rw [HTL2.out, if_neg (HSN.out.1 ht)]
      have t0 : (bsOf (sfx s J)).toList = [] := by rw [ByteArray.toList_eq]; exact ht
      obtain ⟨⟨A0, c0, rfl, hc0, hs0⟩, ⟨A1, c1, rfl, hc1, hs1⟩, ⟨A2, c2, rfl, hc2, hs2'⟩⟩ := hP.forms
      have HCK := Lib.hid (rptCheck_any ⟨O, H, U⟩ A0 A1 A2 c0 c1 c2 w4 HOK (hg.mono hP.bel).g.kw hc0 hs0 hs1 hs2')
      simp only at HCK
      obtain ⟨q, HQ⟩ : ∃ q, Hid (q = rptE ⟨O, H, U⟩) := ⟨_, Lib.hid rfl⟩
      rw [← HQ.out] at HCK HT3
      have b0 := hP.bx6.cell 0 rfl
      have b1 := hP.bx6.cell 1 rfl
      have b2 := hP.bx6.cell 2 rfl
      have bl := hP.bx6.lt
      clear ht hs0 hs1 hs2' HTL2 HSN HQ HOK
      go_wp2_with fail
      refine HCK.out.mono ?_
      rintro e w5 ⟨rfl, hb5⟩
      have hP5 := hP.mono hb5
      clear hP hPE c5 l5 r0 r1 r2 rl t0 b0 b1 b2 bl HCK hb5
      have hx2 : Box w5 w.heap.size [.slice none 0 0, .slice none 0 0, .slice none 0 0] 26 := by have h := hP5.bx2; rwa [Nat.add_sub_cancel] at h
      have d0 := hx2.cell 0 rfl
      have d1 := hx2.cell 1 rfl
      have d2 := hx2.cell 2 rfl
      have df := fun i => hx2.free i
      have dl := hx2.lt
      by_cases hq : q = 0
      · have HT4 : Hid (T = (⟨O, H, U⟩, 0, 0)) := by show _ = _; rw [HT3.out, if_neg (by simp [hq])]
        have tq : (q != 0) = false := by simp [hq]
        clear hq HT3
        obtain ⟨bxF, hgF⟩ := store3R hx2 (.slice A0 O.length c0) (.slice A1 H.length c1) (.slice A2 U.length c2)
        have hbF := below_own hP5.bel hgF (Nat.le_refl _)
        obtain ⟨s0, s1, s2⟩ := hP5.out (by rw [Nat.add_sub_cancel]; exact hgF)
        have b0 := hP5.bx6.cell 0 rfl
        have b1 := hP5.bx6.cell 1 rfl
        have b2 := hP5.bx6.cell 2 rfl
        have bl := hP5.bx6.lt
        clear hP5 hgF hx2
        go_wp2_with fail
        generalize World.setCell _ _ _ = W3 at *
        have z0 := bxF.cell 0 rfl
        have z1 := bxF.cell 1 rfl
        have z2 := bxF.cell 2 rfl
        refine bodyPost_ret (v := .tuple #[.agg #[.slice A0 O.length c0, .slice A1 H.length c1, .slice A2 U.length c2], .int .i64 0, .int .i64 0]) (by simp [results, Tryz.results15, go_sem, z0, z1, z2]) rfl ⟨by rw [HT4.out]; exact ⟨A0, c0, A1, c1, A2, c2, rfl, hc0, hc1, hc2, s0, s1, s2⟩, hbF⟩
      · have HT4 : Hid (T = (rpt0, 0, q)) := by show _ = _; rw [HT3.out, if_pos hq]
        have tq : (q != 0) = true := by simp [hq]
        clear hq HT3
        obtain ⟨bxF, hgF⟩ := store3R hx2 (.slice none 0 0) (.slice none 0 0) (.slice none 0 0)
        have hbF := below_own hP5.bel hgF (Nat.le_refl _)
        clear hP5 hgF hx2
        go_wp2_with fail
        generalize World.setCell _ _ _ = W3 at *
        have z0 := bxF.cell 0 rfl
        have z1 := bxF.cell 1 rfl
        have z2 := bxF.cell 2 rfl
        refine bodyPost_ret (v := .tuple #[.agg #[.slice none 0 0, .slice none 0 0, .slice none 0 0], .int .i64 0, .int .i64 q]) (by simp [results, Tryz.results15, go_sem, z0, z1, z2]) rfl ⟨by rw [HT4.out]; exact RetP.zero _ _ _, hbF⟩
    · have HTE : Hid (T = (rpt0, (J : Int) + 1, 2)) := by
        show _ = _
        rw [HTL2.out, if_pos]
        exact Classical.byContradiction fun h => ht (HSN.out.2 h)
      have hne : ¬ (bsOf (sfx s J)).toList = [] := by rw [ByteArray.toList_eq]; exact ht
      have t0 : (bsOf (sfx s J)).toList.isEmpty = false := by
        cases h : (bsOf (sfx s J)).toList with
        | nil => exact absurd h hne
        | cons a b => rfl
      have rf := hPE.rd.bx.free 2
      have hPE2 : PE w s (w.heap.size + 1) (w.heap.size + 2) w.heap.size J 2 (w4.setCell ⟨w.heap.size + 1, 2, none⟩ (.int .i64 2)) :=
        ⟨⟨hPE.rd.bx.set 2 _, hPE.rd.le⟩, hPE.bp.setOther (by simp) _, hPE.bx2.setOther (by simp) _, bw_setCell hPE.bel (by simp), hPE.l2⟩
      clear ht HTL2 HSN HOK hP
      go_upto_region 10 with fail
      generalize World.setCell _ _ _ = w5 at *
      clear hPE c5 l5 r0 r1 r2 rl rf hne t0
      have hPE := hPE2
      clear hPE2
      have c5 := hPE.bp.cell 0 rfl
      have l5 := hPE.bp.lt
      have r0 := hPE.rd.bx.cell 0 rfl
      have r1 := hPE.rd.bx.cell 1 rfl
      have r2 := hPE.rd.bx.cell 2 rfl
      have rl := hPE.rd.bx.lt
      go_wp2_with fail
      have d0 := hPE.bx2.cell 0 rfl
      have d1 := hPE.bx2.cell 1 rfl
      have d2 := hPE.bx2.cell 2 rfl
      have df := fun i => hPE.bx2.free i
      have dl := hPE.bx2.lt
      go_region_held3 (fun w' => w'.cell? ⟨w.heap.size + 2, 0, none⟩ = some (.pointer (some ⟨w.heap.size + 1, 0, none⟩)) ∧ w'.cell? ⟨w.heap.size + 1, 1, none⟩ = some (.int .i64 ((J : Int) + 1)) ∧ w'.cell? ⟨w.heap.size + 1, 2, none⟩ = some (.int .i64 2)) (go_keep) (fail)
      obtain ⟨bxF, hgF⟩ := store3R hPE.bx2 (.slice none 0 0) (.slice none 0 0) (.slice none 0 0)
      have hbF := below_own hPE.bel hgF (Nat.le_refl _)
      clear hPE c5 l5 r0 r1 r2 rl hgF
      go_wp2_with fail
      generalize World.setCell _ _ _ = W3 at *
      have z0 := bxF.cell 0 rfl
      have z1 := bxF.cell 1 rfl
      have z2 := bxF.cell 2 rfl
      refine bodyPost_ret (v := .tuple #[.agg #[.slice none 0 0, .slice none 0 0, .slice none 0 0], .int .i64 ((J : Int) + 1), .int .i64 2]) (by simp [results, Tryz.results15, go_sem, z0, z1, z2]) rfl ⟨by rw [HTE.out]; exact RetP.zero _ _ _, hbF.drew⟩
  · have HTE := Lib.hid hT
    have tE : (E == 0) = false := by rw [beq_eq_false_iff_ne]; exact hE
    have tE2 : (E != 0) = true := by rw [bne_iff_ne]; exact hE
    clear hT hE
    go_wp2_with fail
    have d0 := hPE.bx2.cell 0 rfl
    have d1 := hPE.bx2.cell 1 rfl
    have d2 := hPE.bx2.cell 2 rfl
    have df := fun i => hPE.bx2.free i
    have dl := hPE.bx2.lt
    go_region_held3 (fun w' => w'.cell? ⟨w.heap.size + 2, 0, none⟩ = some (.pointer (some ⟨w.heap.size + 1, 0, none⟩)) ∧ w'.cell? ⟨w.heap.size + 1, 1, none⟩ = some (.int .i64 ((J : Int) + 1)) ∧ w'.cell? ⟨w.heap.size + 1, 2, none⟩ = some (.int .i64 E)) (go_keep) (fail)
    obtain ⟨bxF, hgF⟩ := store3R hPE.bx2 (.slice none 0 0) (.slice none 0 0) (.slice none 0 0)
    have hbF := below_own hPE.bel hgF (Nat.le_refl _)
    clear hPE c5 l5 r0 r1 r2 rl hgF
    go_wp2_with fail
    generalize World.setCell _ _ _ = W3 at *
    have z0 := bxF.cell 0 rfl
    have z1 := bxF.cell 1 rfl
    have z2 := bxF.cell 2 rfl
    refine bodyPost_ret (v := .tuple #[.agg #[.slice none 0 0, .slice none 0 0, .slice none 0 0], .int .i64 ((J : Int) + 1), .int .i64 E]) (by simp [results, Tryz.results15, go_sem, z0, z1, z2]) rfl ⟨by rw [HTE.out]; exact RetP.zero _ _ _, hbF.drew⟩
end Go.Proofs.YtlcdnkloijehjaaGreatDoor
