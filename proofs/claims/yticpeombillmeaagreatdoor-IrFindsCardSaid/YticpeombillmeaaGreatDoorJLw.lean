/-
  The answer's Find (chapter 12).
  Chapter 13: the walk of IrFinds.
  Chapter 13: the walk of IrBack. (Printed by wip/gen/lwB.py.)
-/
import Derived.Test.YticpeombillmeaaGreatDoorJIh
import Derived.Test.YticpeombillmeaaGreatDoorJAwA
import Derived.Test.YticpeombillmeaaGreatDoorJSmB
namespace Go.Proofs.YticpeombillmeaaGreatDoor
open Go.RowKit
set_option linter.unusedVariables false
set_option maxHeartbeats 1000000 in
theorem refFind_any (A0 A : Option Addr) (n0 c0 c : Nat) (mn : Int) (l : List Fun) (s t : ByteArray) (w : World) (hl : l.length ≤ 9223372036854775807) (hs : Sl Lay.fun w A l) :
    Calls Tryz.prog 33 #[.agg #[.slice A0 n0 c0, .slice A l.length c, .int .i64 mn], .string s, .string t] w fun e w' => e = .returned (.int .i64 (findU l s t)) ∧ Below w.heap.size w w' := by
  have HFU : Hid (findU l s t = idxI (isFun s t) l) := rfl
  rw [HFU.out]
  go_enter Tryz.func33, Tryz.ntmps33
  go_wp2_with fail
  have b1 : Box (w.alloc (.cells #[.slice A0 n0 c0, .slice A l.length c, .int .i64 mn] 27)) w.heap.size [.slice A0 n0 c0, .slice A l.length c, .int .i64 mn] 27 := Box.at (by simp)
  have hbW : Below w.heap.size w (w.alloc (.cells #[.slice A0 n0 c0, .slice A l.length c, .int .i64 mn] 27)) := (by repeat (first | assumption | exact Below.refl _ _ | apply bw_alloc | apply bw_drew | apply bw_drewN | apply bw_later | apply bw_step))
  generalize World.alloc w _ = W1 at *
  go_loopw [7] (fun i wr => ∃ k : Nat, k ≤ l.length ∧ i = .int .i64 k ∧ Hid (∀ i (hi : i < k) (hi2 : i < l.length), isFun s t l[i] = false) ∧ Below W1.heap.size W1 wr) (fun i _ => l.length - (intOf i).toNat)
  case atStart => exact ⟨0, Nat.zero_le _, rfl, fun i hi => by omega, Below.refl _ _⟩
  case round =>
    obtain ⟨k, hk, rfl, HN, hbw⟩ := hrel
    have bz := b1.mono hbw
    have y0 := bz.cell 0 rfl
    have y1 := bz.cell 1 rfl
    have y2 := bz.cell 2 rfl
    have yl := bz.lt
    have hbf := below_step hbW hbw
    by_cases hlt : k < l.length
    · obtain ⟨b, o, A4, c4, A6, c6, rfl, hb, e0, e1, e2, e3, e4, e5, e6, hc4, hs4, hc6, hs6⟩ := (hs.mono hbf).fun_at hlt
      have hki : (k : Int) < l.length := by omega
      cases q1 : (l[k].cls.toList == s.toList) with
      | false =>
        have HE : Hid (∀ i (hi : i < k + 1) (hi2 : i < l.length), isFun s t l[i] = false) := fun i hi hi2 => by
          by_cases e : i = k
          · subst e; unfold isFun; rw [q1]; rfl
          · exact HN.out i (by omega) hi2
        go_wp2_with fail
        go_roundw
        case rel => exact ⟨k + 1, by omega, by go_num, HE, hbw⟩
        case measure => simp [intOf]; omega
      | true =>
        cases q2 : (l[k].name.toList == t.toList) with
        | false =>
          have HE : Hid (∀ i (hi : i < k + 1) (hi2 : i < l.length), isFun s t l[i] = false) := fun i hi hi2 => by
            by_cases e : i = k
            · subst e; unfold isFun; rw [q1, q2]; rfl
            · exact HN.out i (by omega) hi2
          go_wp2_with fail
          go_roundw
          case rel => exact ⟨k + 1, by omega, by go_num, HE, hbw⟩
          case measure => simp [intOf]; omega
        | true =>
          have HE := Lib.hid (idxI_at hlt (fun i hi => HN.out i hi (by omega)) (show isFun s t l[k] = true by unfold isFun; rw [q1, q2]; rfl))
          go_wp2_with fail
          go_ret
          exact ⟨by rw [HE.out]; rfl, hbf⟩
    · have HE := Lib.hid (idxI_none (p := isFun s t) (l := l) (fun i hi => HN.out i (by omega) hi))
      go_wp2_with fail
      go_ret
      exact ⟨by rw [HE.out]; rfl, hbf⟩
theorem ref13Find_any (A0 A : Option Addr) (n0 c0 c : Nat) (mn : Int) (l : List Fun) (s t : ByteArray) (w : World) (hl : l.length ≤ 9223372036854775807) (hs : Sl Lay.fun w A l) :
    Calls Tryz.prog 11 #[.agg #[.slice A0 n0 c0, .slice A l.length c, .int .i64 mn], .string s, .string t] w fun e w' => e = .returned (.int .i64 (findU l s t)) ∧ Below w.heap.size w w' := by
  go_enter Tryz.func11, Tryz.ntmps11
  go_wp2_with fail
  refine (refFind_any A0 A n0 c0 c mn l s t _ hl (hs.mono (by exact (by repeat (first | assumption | exact Below.refl _ _ | apply bw_alloc | apply bw_drew | apply bw_drewN | apply bw_later | apply bw_step))))).mono ?_
  rintro e w1 ⟨rfl, hb1⟩
  go_wp2_with fail
  go_ret
  exact ⟨rfl, below_step (by exact (by repeat (first | assumption | exact Below.refl _ _ | apply bw_alloc | apply bw_drew | apply bw_drewN | apply bw_later | apply bw_step))) hb1⟩
end Go.Proofs.YticpeombillmeaaGreatDoor
namespace Go.Proofs.YticpeombillmeaaGreatDoor
open Go.RowKit
set_option linter.unusedVariables false
theorem irSame_H {w : World} (x y : Unt) {A0 A1 B0 B1 : Option Addr} {a0 b0 : Nat} (a1 b1 : Nat) (hx : UnH w x A0 A1 a0) (hy : UnH w y B0 B1 b0) :
    Calls Tryz.prog 12 #[.agg #[.slice A0 x.classes.length a0, .slice A1 x.funcs.length a1, .int .i64 x.main], .agg #[.slice B0 y.classes.length b0, .slice B1 y.funcs.length b1, .int .i64 y.main]] w fun e w' => e = .returned (.bool (eqv x y)) ∧ Below w.heap.size w w' :=
  irSame_any x y A0 A1 B0 B1 a0 a1 b0 b1 w hx.hl hx.hlk hx.hfl hx.hfo hx.hs hx.hf hy.hl hy.hlk hy.hfl hy.hfo hy.hs hy.hf
theorem refSame_H {w : World} (x y : Unt) {A0 A1 B0 B1 : Option Addr} {a0 b0 : Nat} (a1 b1 : Nat) (hx : UnH w x A0 A1 a0) (hy : UnH w y B0 B1 b0) :
    Calls Tryz.prog 8 #[.agg #[.slice A0 x.classes.length a0, .slice A1 x.funcs.length a1, .int .i64 x.main], .agg #[.slice B0 y.classes.length b0, .slice B1 y.funcs.length b1, .int .i64 y.main]] w fun e w' => e = .returned (.bool (eqv x y)) ∧ Below w.heap.size w w' :=
  refSame_any x y A0 A1 B0 B1 a0 a1 b0 b1 w hx.hl hx.hlk hx.hfl hx.hfo hx.hs hx.hf hy.hl hy.hlk hy.hfl hy.hfo hy.hs hy.hf

set_option maxRecDepth 100000 in
set_option maxHeartbeats 8000000 in
theorem walk_IrFinds (u v : Unt) (A0 A1 B0 B1 : Option Addr) (a0 a1 b0 b1 : Nat) (s t : ByteArray) (w : World) (hg : Gl3 w) (HU : Hid (UnH w u A0 A1 a0)) (HV : Hid (UnH w v B0 B1 b0)) :
    Calls Tryz.prog 4 #[.agg #[.slice A0 u.classes.length a0, .slice A1 u.funcs.length a1, .int .i64 u.main], .agg #[.slice B0 v.classes.length b0, .slice B1 v.funcs.length b1, .int .i64 v.main], .string s, .string t] w fun e w' => e = .returned (.bool true) ∧ Below w.heap.size w w' := by
  have HF1 := Lib.hid (fun W (h : Below w.heap.size w W) => irFind_any A0 A1 u.classes.length a0 a1 u.main u.funcs s t W (by have := HU.out.hfl; omega) (HU.out.hf.mono h))
  have HF2 := Lib.hid (fun W (h : Below w.heap.size w W) => ref13Find_any A0 A1 u.classes.length a0 a1 u.main u.funcs s t W (by have := HU.out.hfl; omega) (HU.out.hf.mono h))
  have HS1 := Lib.hid (fun W (h : Below w.heap.size w W) => irSame_H u v a1 b1 (HU.out.mono h) (HV.out.mono h))
  have HS2 := Lib.hid (fun W (h : Below w.heap.size w W) => refSame_H u v a1 b1 (HU.out.mono h) (HV.out.mono h))
  have HS3 := Lib.hid (fun W (h : Below w.heap.size w W) => irSame_H u u a1 a1 (HU.out.mono h) (HU.out.mono h))
  have HS4 := Lib.hid (fun W (h : Below w.heap.size w W) => irSame_H v u b1 a1 (HV.out.mono h) (HU.out.mono h))
  have HAW := Lib.hid (fun W (h : Below w.heap.size w W) => awake_any W (hg.mono h))
  rw [eqv_comm v u] at HS4
  rw [eqv_t rfl] at HS3
  generalize eqv u v = q at *
  generalize findU u.funcs s t = k at *
  have k1 : (k != k) = false := by simp
  have q1 : (q != q) = false := by cases q <;> rfl
  have q2 : (q == q) = true := by cases q <;> rfl
  go_enter Tryz.func4, Tryz.ntmps4
  go_upto_region 1 with fail
  generalize hW : World.alloc (World.alloc _ _) _ = W1 at *
  have hbW : Below w.heap.size w W1 := by rw [← hW]; exact (by repeat (first | assumption | exact Below.refl _ _ | apply bw_alloc | apply bw_drew | apply bw_drewN | apply bw_later | apply bw_step))
  have bx : Box W1 w.heap.size [.slice A0 u.classes.length a0, .slice A1 u.funcs.length a1, .int .i64 u.main] 27 := by rw [← hW]; exact (by repeat (first | (refine Box.at ?_; (simp; done)) | apply Box.drew | apply Box.alloc | assumption))
  have bY : Box W1 (w.heap.size + 1) [.slice B0 v.classes.length b0, .slice B1 v.funcs.length b1, .int .i64 v.main] 27 := by rw [← hW]; exact (by repeat (first | (refine Box.at ?_; (simp; done)) | apply Box.drew | apply Box.alloc | assumption))
  clear hW
  have xl := bx.lt
  have yl := bY.lt
  have x0 := bx.cell 0 rfl
  have x1 := bx.cell 1 rfl
  have x2 := bx.cell 2 rfl
  have y0 := bY.cell 0 rfl
  have y1 := bY.cell 1 rfl
  have y2 := bY.cell 2 rfl
  refine wp_region_later (by kernel_rfl) (by kernel_rfl) ?_
  repeat (go_big_quiet_step (first
    | (go_at_call 10; with_reducible exact Calls.later (HF1.out _ (by exact (by repeat (first | assumption | exact Below.refl _ _ | apply bw_alloc | apply bw_drew | apply bw_drewN | apply bw_later | apply bw_step)))))
    | (go_at_call 11; with_reducible exact Calls.later (HF2.out _ (by exact (by repeat (first | assumption | exact Below.refl _ _ | apply bw_alloc | apply bw_drew | apply bw_drewN | apply bw_later | apply bw_step)))))
    | (go_at_call 12; with_reducible exact Calls.later (HS1.out _ (by exact (by repeat (first | assumption | exact Below.refl _ _ | apply bw_alloc | apply bw_drew | apply bw_drewN | apply bw_later | apply bw_step)))))
    | (go_at_call 8; with_reducible exact Calls.later (HS2.out _ (by exact (by repeat (first | assumption | exact Below.refl _ _ | apply bw_alloc | apply bw_drew | apply bw_drewN | apply bw_later | apply bw_step)))))
    | fail))
  refine wpQuiet_nil ?_
  rintro _ ⟨z, rfl⟩
  have bx2 := bx.mono z.h
  have by2 := bY.mono z.h
  have hbz := below_step hbW z.h
  clear xl yl x0 x1 x2 y0 y1 y2
  have xl := bx2.lt
  have yl := by2.lt
  have x0 := bx2.cell 0 rfl
  have x1 := bx2.cell 1 rfl
  have x2 := bx2.cell 2 rfl
  have y0 := by2.cell 0 rfl
  have y1 := by2.cell 1 rfl
  have y2 := by2.cell 2 rfl
  go_upto_region 3 with fail
  refine wp_region_later (by kernel_rfl) (by kernel_rfl) ?_
  repeat (go_big_quiet_step (first
    | (go_at_call 12; first | with_reducible exact Calls.later (HS3.out _ (by exact (by repeat (first | assumption | exact Below.refl _ _ | apply bw_alloc | apply bw_drew | apply bw_drewN | apply bw_later | apply bw_step)))) | with_reducible exact Calls.later (HS4.out _ (by exact (by repeat (first | assumption | exact Below.refl _ _ | apply bw_alloc | apply bw_drew | apply bw_drewN | apply bw_later | apply bw_step)))) | with_reducible exact Calls.later (HS1.out _ (by exact (by repeat (first | assumption | exact Below.refl _ _ | apply bw_alloc | apply bw_drew | apply bw_drewN | apply bw_later | apply bw_step)))))
    | (go_at_call 9; with_reducible exact Calls.later (HAW.out _ (by exact (by repeat (first | assumption | exact Below.refl _ _ | apply bw_alloc | apply bw_drew | apply bw_drewN | apply bw_later | apply bw_step)))))
    | fail))
  refine wpQuiet_nil ?_
  rintro _ ⟨y, rfl⟩
  go_wp2_with fail
  go_ret
  exact ⟨rfl, below_step hbz y.h⟩
end Go.Proofs.YticpeombillmeaaGreatDoor
namespace Go.Proofs.YticpeombillmeaaGreatDoor
open Go.RowKit
set_option linter.unusedVariables false
theorem txtRes_ok {u : Unt} (h : (txtRes u).2 = 0) : (chkE u).2.2 = 0 ∧ (txtRes u).1 = bsOf (txtU u) ∧ (txtU u).length ≤ 65536 := by
  unfold txtRes at h ⊢
  split at h
  · rename_i hn; exact absurd h hn
  rename_i hn
  split at h
  · cases h
  rename_i hl
  rw [if_neg hn, if_neg hl]
  exact ⟨by simpa using hn, rfl, by omega⟩
theorem txtRes_of {u : Unt} {s : ByteArray} (h : parseU s = some u) : txtRes u = (s, 0) := by
  obtain ⟨h1, h2, h3⟩ := parseU_txt h
  unfold txtRes
  have hl : (txtU u).length ≤ 65536 := by rw [h1, toL_size]; exact h3
  rw [if_neg (by simpa using h2), if_neg (by omega), h1, ← bsOf_toL rfl]
set_option maxRecDepth 100000 in
set_option maxHeartbeats 8000000 in
theorem walk_IrBack (u : Unt) (A0 A1 : Option Addr) (a0 a1 : Nat) (s : ByteArray) (w : World) (hg : Gl3 w) (HU : Hid (UnH w u A0 A1 a0)) (HI : Hid (∀ f ∈ u.funcs, ∀ x ∈ f.code, InsI x)) :
    Calls Tryz.prog 3 #[.agg #[.slice A0 u.classes.length a0, .slice A1 u.funcs.length a1, .int .i64 u.main], .string s] w fun e w' => e = .returned (.bool true) ∧ Below w.heap.size w w' := by
  have HT := Lib.hid (fun W (h : Below w.heap.size w W) => text_any u A0 A1 a0 a1 W (Lib.hid (HU.out.mono h)) HI (hg.mono h))
  have HP := Lib.hid (fun W (h : Below w.heap.size w W) => parse_any s W (hg.mono h))
  have HW := Lib.hid (fun W (h : Below w.heap.size w W) => awake_any W (hg.mono h))
  have HPU : Hid (∀ y, parseU s = some y → ∀ W AC AF cC cF, Below w.heap.size w W → y.classes.length ≤ cC → Sl Lay.cls W AC y.classes → Sl Lay.fun W AF y.funcs → Calls Tryz.prog 6 #[.agg #[.slice AC y.classes.length cC, .slice AF y.funcs.length cF, .int .i64 y.main]] W fun e w' => e = .returned (.tuple #[.string s, .int .i64 0]) ∧ Below W.heap.size W w') := fun y hy W AC AF cC cF h hc hs hf => by
    have := text_any y AC AF cC cF W (Lib.hid ((parseU_held hy).2 hc hs hf (hg.mono h).fx (hg.mono h).kw)) (Lib.hid (parseU_held hy).1) (hg.mono h)
    rwa [txtRes_of hy] at this
  have HTP : Hid ((txtRes u).2 = 0 → parseU (txtRes u).1 = some u) := fun h => by
    obtain ⟨h1, h2, h3⟩ := txtRes_ok h
    rw [h2]
    exact parseU_text h1 HI.out h3
  have HP2 := Lib.hid (fun W (h : Below w.heap.size w W) => parse_any (txtRes u).1 W (hg.mono h))
  have HSM := Lib.hid (fun W (B0 B1 : Option Addr) (b0 b1 : Nat) (h : Below w.heap.size w W) (hb : UnH W u B0 B1 b0) => refSame_H u u a1 b1 (HU.out.mono h) hb)
  rw [eqv_t rfl] at HSM
  have HB2 : Hid ((txtRes u).2 = 0 → ∀ (W : World) (B0 B1 : Option Addr) (b0 : Nat), Below w.heap.size w W → u.classes.length ≤ b0 → Sl Lay.cls W B0 u.classes → Sl Lay.fun W B1 u.funcs → UnH W u B0 B1 b0) := fun h W B0 B1 b0 hW hc hs hf => (parseU_held (HTP.out h)).2 hc hs hf (hg.mono hW).fx (hg.mono hW).kw
  generalize txtRes u = r at *
  obtain ⟨tb, te⟩ := r
  simp only at HT HTP HP2 HB2
  go_enter Tryz.func3, Tryz.ntmps3
  go_upto_region 1 with fail
  generalize hW : World.alloc _ _ = W1 at *
  have hbW : Below w.heap.size w W1 := by rw [← hW]; exact (by repeat (first | assumption | exact Below.refl _ _ | apply bw_alloc | apply bw_drew | apply bw_drewN | apply bw_later | apply bw_step))
  have bx : Box W1 w.heap.size [.slice A0 u.classes.length a0, .slice A1 u.funcs.length a1, .int .i64 u.main] 27 := by rw [← hW]; exact (by repeat (first | (refine Box.at ?_; (simp; done)) | apply Box.drew | apply Box.alloc | assumption))
  clear hW
  have x0 := bx.cell 0 rfl
  have x1 := bx.cell 1 rfl
  have x2 := bx.cell 2 rfl
  have xl := bx.lt
  go_wp2_with fail
  refine (HT.out _ hbW).mono ?_
  rintro e w2 ⟨rfl, hb2⟩
  have hbw2 := below_step hbW hb2
  have bx2 := bx.mono hb2
  clear x0 x1 x2 xl bx
  by_cases hte : te = 0
  · subst hte
    have HTQ := Lib.hid (HTP.out rfl)
    have HBQ := Lib.hid (HB2.out rfl)
    go_upto_region 3 with fail
    go_wp2_with fail
    refine (HP2.out _ hbw2).mono ?_
    rintro e w3 ⟨hR, hb3⟩
    obtain ⟨AC, cC, AF, cF, rfl, hcC, hsC, hcF, hsF⟩ := hR.some HTQ.out
    clear hR
    have hbw3 := below_step hbw2 hb3
    go_upto_region 4 with fail
    generalize hW : World.alloc w3 _ = W4 at *
    have hb4 : Below w3.heap.size w3 W4 := by rw [← hW]; exact (by repeat (first | assumption | exact Below.refl _ _ | apply bw_alloc | apply bw_drew | apply bw_drewN | apply bw_later | apply bw_step))
    have by4 : Box W4 w3.heap.size [.slice AC u.classes.length cC, .slice AF u.funcs.length cF, .int .i64 u.main] 27 := by rw [← hW]; exact (by repeat (first | (refine Box.at ?_; (simp; done)) | apply Box.drew | apply Box.alloc | assumption))
    clear hW
    have bx4 := bx2.mono (below_step hb3 hb4)
    have hbw4 := below_step hbw3 hb4
    have x0 := bx4.cell 0 rfl
    have x1 := bx4.cell 1 rfl
    have x2 := bx4.cell 2 rfl
    have xl := bx4.lt
    have y0 := by4.cell 0 rfl
    have y1 := by4.cell 1 rfl
    have y2 := by4.cell 2 rfl
    have yl := by4.lt
    go_wp2_with fail
    refine (HSM.out _ AC AF cC cF hbw4 (HBQ.out _ _ _ _ hbw4 hcC (hsC.mono hb4) (hsF.mono hb4))).mono ?_
    rintro e w5' ⟨rfl, hb5'⟩
    have hbw5' := below_step hbw4 hb5'
    go_upto_region 6 with fail
    clear x0 x1 x2 xl y0 y1 y2 yl
    go_wp2_with fail
    refine (HP.out _ hbw5').mono ?_
    rintro e w5 ⟨hR, hb5⟩
    have hbw5 := below_step hbw5' hb5
    cases hps : parseU s with
    | none =>
      obtain ⟨i, c, hc, rfl⟩ := hR.none hps
      have hc2 : (c != 0) = true := by simpa using hc
      clear hR
      go_upto_region 7 with fail
      generalize hW : World.alloc w5 _ = W6 at *
      have hb6 : Below w5.heap.size w5 W6 := by rw [← hW]; exact (by repeat (first | assumption | exact Below.refl _ _ | apply bw_alloc | apply bw_drew | apply bw_drewN | apply bw_later | apply bw_step))
      have bz : Box W6 w5.heap.size [.slice none 0 0, .slice none 0 0, .int .i64 0] 27 := by rw [← hW]; exact (by repeat (first | (refine Box.at ?_; (simp; done)) | apply Box.drew | apply Box.alloc | assumption))
      clear hW
      have z1 := bz.cell 1 rfl
      have zl := bz.lt
      go_wp2_with fail
      refine (HW.out _ (below_step hbw5 hb6)).mono ?_
      rintro e w7 ⟨rfl, hb7⟩
      go_wp2_with fail
      go_ret
      exact ⟨rfl, below_step (below_step hbw5 hb6) hb7⟩
    | some y =>
      obtain ⟨AC, cC, AF, cF, rfl, hcC, hsC, hcF, hsF⟩ := hR.some hps
      clear hR
      have HY := Lib.hid (HPU.out y hps)
      clear hps
      go_upto_region 7 with fail
      generalize hW : World.alloc w5 _ = W6 at *
      have hb6 : Below w5.heap.size w5 W6 := by rw [← hW]; exact (by repeat (first | assumption | exact Below.refl _ _ | apply bw_alloc | apply bw_drew | apply bw_drewN | apply bw_later | apply bw_step))
      have bz : Box W6 w5.heap.size [.slice AC y.classes.length cC, .slice AF y.funcs.length cF, .int .i64 y.main] 27 := by rw [← hW]; exact (by repeat (first | (refine Box.at ?_; (simp; done)) | apply Box.drew | apply Box.alloc | assumption))
      clear hW
      have z0 := bz.cell 0 rfl
      have z1 := bz.cell 1 rfl
      have z2 := bz.cell 2 rfl
      have zl := bz.lt
      have hbw6 := below_step hbw5 hb6
      go_wp2_with fail
      refine (HY.out W6 AC AF cC cF hbw6 hcC (hsC.mono hb6) (hsF.mono hb6)).mono ?_
      rintro e w7 ⟨rfl, hb7⟩
      have hbw7 := below_step hbw6 hb7
      go_wp2_with fail
      refine (HW.out _ hbw7).mono ?_
      rintro e w8 ⟨rfl, hb8⟩
      go_wp2_with fail
      go_ret
      exact ⟨rfl, below_step hbw7 hb8⟩
  · have ht2 : (te == 0) = false := by simpa using hte
    go_upto_region 6 with fail
    go_wp2_with fail
    refine (HP.out _ hbw2).mono ?_
    rintro e w5 ⟨hR, hb5⟩
    have hbw5 := below_step hbw2 hb5
    cases hps : parseU s with
    | none =>
      obtain ⟨i, c, hc, rfl⟩ := hR.none hps
      have hc2 : (c != 0) = true := by simpa using hc
      clear hR
      go_upto_region 7 with fail
      generalize hW : World.alloc w5 _ = W6 at *
      have hb6 : Below w5.heap.size w5 W6 := by rw [← hW]; exact (by repeat (first | assumption | exact Below.refl _ _ | apply bw_alloc | apply bw_drew | apply bw_drewN | apply bw_later | apply bw_step))
      have bz : Box W6 w5.heap.size [.slice none 0 0, .slice none 0 0, .int .i64 0] 27 := by rw [← hW]; exact (by repeat (first | (refine Box.at ?_; (simp; done)) | apply Box.drew | apply Box.alloc | assumption))
      clear hW
      have z1 := bz.cell 1 rfl
      have zl := bz.lt
      go_wp2_with fail
      refine (HW.out _ (below_step hbw5 hb6)).mono ?_
      rintro e w7 ⟨rfl, hb7⟩
      go_wp2_with fail
      go_ret
      exact ⟨rfl, below_step (below_step hbw5 hb6) hb7⟩
    | some y =>
      obtain ⟨AC, cC, AF, cF, rfl, hcC, hsC, hcF, hsF⟩ := hR.some hps
      clear hR
      have HY := Lib.hid (HPU.out y hps)
      clear hps
      go_upto_region 7 with fail
      generalize hW : World.alloc w5 _ = W6 at *
      have hb6 : Below w5.heap.size w5 W6 := by rw [← hW]; exact (by repeat (first | assumption | exact Below.refl _ _ | apply bw_alloc | apply bw_drew | apply bw_drewN | apply bw_later | apply bw_step))
      have bz : Box W6 w5.heap.size [.slice AC y.classes.length cC, .slice AF y.funcs.length cF, .int .i64 y.main] 27 := by rw [← hW]; exact (by repeat (first | (refine Box.at ?_; (simp; done)) | apply Box.drew | apply Box.alloc | assumption))
      clear hW
      have z0 := bz.cell 0 rfl
      have z1 := bz.cell 1 rfl
      have z2 := bz.cell 2 rfl
      have zl := bz.lt
      have hbw6 := below_step hbw5 hb6
      go_wp2_with fail
      refine (HY.out W6 AC AF cC cF hbw6 hcC (hsC.mono hb6) (hsF.mono hb6)).mono ?_
      rintro e w7 ⟨rfl, hb7⟩
      have hbw7 := below_step hbw6 hb7
      go_wp2_with fail
      refine (HW.out _ hbw7).mono ?_
      rintro e w8 ⟨rfl, hb8⟩
      go_wp2_with fail
      go_ret
      exact ⟨rfl, below_step hbw7 hb8⟩
end Go.Proofs.YticpeombillmeaaGreatDoor
