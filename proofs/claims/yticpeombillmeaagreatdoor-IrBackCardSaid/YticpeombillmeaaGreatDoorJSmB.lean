/-
  Chapters 10, 12, 13: the answer's Same. (Printed by wip/gen/smB.py.)
-/
import Derived.Test.YticpeombillmeaaGreatDoorJSmA
import Derived.Test.YticpeombillmeaaGreatDoorJGa
import Derived.Test.YticpeombillmeaaGreatDoorJIc
namespace Go.Proofs.YticpeombillmeaaGreatDoor
open Go.RowKit
set_option linter.unusedVariables false
theorem insExt {x y : Ins} (h0 : x.op = y.op) (h1 : x.dst = y.dst) (h2 : x.a = y.a) (h3 : x.b = y.b) (h4 : x.n = y.n) (h5 : x.cls = y.cls) (h6 : x.name = y.name) (h7 : x.args = y.args) (h8 : x.jmp = y.jmp) (h9 : x.hnd = y.hnd) : x = y := by
  cases x; cases y
  simp only at h0 h1 h2 h3 h4 h5 h6 h7 h8 h9
  rw [h0, h1, h2, h3, h4, h5, h6, h7, h8, h9]
theorem untExt {x y : Unt} (h0 : x.classes = y.classes) (h1 : x.funcs = y.funcs) (h2 : x.main = y.main) : x = y := by
  cases x; cases y
  simp only at h0 h1 h2
  rw [h0, h1, h2]
theorem funExt9 {x y : Fun} (h0 : x.cls = y.cls) (h1 : x.name = y.name) (h2 : x.static = y.static) (h3 : x.nparams = y.nparams) (h4 : x.vars = y.vars) (h5 : x.result = y.result) (h6 : x.code = y.code) : x = y := by
  cases x; cases y
  simp only at h0 h1 h2 h3 h4 h5 h6
  rw [h0, h1, h2, h3, h4, h5, h6]

set_option maxHeartbeats 1000000 in
theorem refInts_any (A B : Option Addr) (cA cB : Nat) (l m : List Int) (w : World) (hl : l.length ≤ 17592186044416) (hm : m.length ≤ 17592186044416) (hs : Sl Lay.int w A l) (ht : Sl Lay.int w B m) :
    Calls Tryz.prog 90 #[.slice A l.length cA, .slice B m.length cB] w fun e w' => e = .returned (.bool (eqv l m)) ∧ Below w.heap.size w w' := by
  obtain ⟨r, HR⟩ : ∃ r, Hid (r = eqv l m) := ⟨_, Lib.hid rfl⟩
  rw [← HR.out]
  by_cases hlen : l.length = m.length
  · have HL := Lib.hid hlen
    have h0 : ((l.length : Int) != (m.length : Int)) = false := by simp [hlen]
    have hle : l.length ≤ m.length := by omega
    have hge : m.length ≤ l.length := by omega
    clear hlen
    go_enter Tryz.func90, Tryz.ntmps90
    go_wp2_with fail
    go_loopw [5] (fun i wr => ∃ k : Nat, k ≤ l.length ∧ i = .int .i64 k ∧ Hid (∀ i (hi : i < k) (h1 : i < l.length) (h2 : i < m.length), l[i] = m[i]) ∧ Below w.heap.size w wr) (fun i _ => l.length - (intOf i).toNat)
    case atStart => exact ⟨0, Nat.zero_le _, rfl, fun i hi => by omega, Below.refl _ _⟩
    case round =>
      obtain ⟨k, hk, rfl, HE, hbw⟩ := hrel
      by_cases hlt : k < l.length
      · have hlt2 : k < m.length := by omega
        obtain ⟨b, o, rfl, hb, d0⟩ := (hs.mono hbw).int_at hlt
        obtain ⟨b2, o2, rfl, hb2, f0⟩ := (ht.mono hbw).int_at hlt2
        obtain ⟨q, HQ⟩ : ∃ q, Hid (q = eqv l[k] m[k]) := ⟨_, Lib.hid rfl⟩
        have hq : (l[k] != m[k]) = !q := by
          rw [HQ.out]
          by_cases e : l[k] = m[k]
          · rw [eqv_t e, e]; simp
          · rw [eqv_f e]; simpa using e
        cases q with
        | false =>
          have HB : Hid (r = false) := by
            show r = false
            rw [HR.out]
            exact eqv_f fun h => by
              have h2 := HQ.out
              subst h
              rw [eqv_t rfl] at h2
              cases h2
          go_wp2_with fail
          refine wp_region_later (by kernel_rfl) (by kernel_rfl) ?_
          repeat (go_big_quiet_step (fail))
          refine wpQuiet_nil ?_
          rintro _ ⟨z, rfl⟩
          go_wp2_with fail
          go_ret
          exact ⟨by rw [HB.out]; rfl, below_step hbw z.h⟩
        | true =>
          have HE2 : Hid (∀ i (hi : i < k + 1) (h1 : i < l.length) (h2 : i < m.length), l[i] = m[i]) := fun i hi h1 h2 => by
            by_cases e : i = k
            · subst e; exact eqv_iff.1 HQ.out.symm
            · exact HE.out i (by omega) h1 h2
          go_wp2_with fail
          refine wp_region_later (by kernel_rfl) (by kernel_rfl) ?_
          repeat (go_big_quiet_step (fail))
          refine wpQuiet_nil ?_
          rintro _ ⟨z, rfl⟩
          go_wp2_with fail
          go_roundw
          case rel => exact ⟨k + 1, by omega, by go_num, HE2, below_step hbw z.h⟩
          case measure => simp [intOf]; omega
      · have HB : Hid (r = true) := by
          show r = true
          rw [HR.out]
          exact eqv_t (List.ext_getElem HL.out (fun i h1 h2 => HE.out i (by omega) h1 h2))
        go_wp2_with fail
        go_ret
        exact ⟨by rw [HB.out]; rfl, hbw⟩
  · have HB : Hid (r = false) := by
      show r = false
      rw [HR.out]
      exact eqv_f fun h => hlen (by rw [h])
    have h0 : ((l.length : Int) != (m.length : Int)) = true := by simp; omega
    clear hlen
    go_enter Tryz.func90, Tryz.ntmps90
    go_wp2_with fail
    go_ret
    exact ⟨by rw [HB.out]; rfl, Below.refl _ _⟩

set_option maxRecDepth 100000 in
set_option maxHeartbeats 4000000 in
theorem refSig_any (x y : Sg) (A0 B0 : Option Addr) (cA0 cB0 : Nat) (w : World) (hlx : x.params.length ≤ 8796093022208) (hly : y.params.length ≤ 8796093022208) (hsx : Sl Lay.str w A0 x.params) (hsy : Sl Lay.str w B0 y.params) :
    Calls Tryz.prog 89 #[.agg #[.string x.name, .bool x.static, .slice A0 x.params.length cA0, .string x.result], .agg #[.string y.name, .bool y.static, .slice B0 y.params.length cB0, .string y.result]] w fun e w' => e = .returned (.bool (eqv (x.params, x.result) (y.params, y.result))) ∧ Below w.heap.size w w' := by
  obtain ⟨r, HR⟩ : ∃ r, Hid (r = eqv (x.params, x.result) (y.params, y.result)) := ⟨_, Lib.hid rfl⟩
  rw [← HR.out]
  go_enter Tryz.func89, Tryz.ntmps89
  go_upto_region 1 with fail
  generalize hW : World.alloc (World.alloc _ _) _ = W1 at *
  have hbW : Below w.heap.size w W1 := by rw [← hW]; exact (by repeat (first | assumption | exact Below.refl _ _ | apply bw_alloc | apply bw_drew | apply bw_drewN | apply bw_later | apply bw_step))
  have bx : Box W1 w.heap.size [.string x.name, .bool x.static, .slice A0 x.params.length cA0, .string x.result] 68 := by rw [← hW]; exact (by repeat (first | (refine Box.at ?_; (simp; done)) | apply Box.drew | apply Box.alloc | assumption))
  have bY : Box W1 (w.heap.size + 1) [.string y.name, .bool y.static, .slice B0 y.params.length cB0, .string y.result] 68 := by rw [← hW]; exact (by repeat (first | (refine Box.at ?_; (simp; done)) | apply Box.drew | apply Box.alloc | assumption))
  clear hW
  have xl := bx.lt
  have yl := bY.lt
  have x0 := bx.cell 0 rfl
  have y0 := bY.cell 0 rfl
  have x1 := bx.cell 1 rfl
  have y1 := bY.cell 1 rfl
  have x2 := bx.cell 2 rfl
  have y2 := bY.cell 2 rfl
  have x3 := bx.cell 3 rfl
  have y3 := bY.cell 3 rfl
  cases tl : ((x.params.length : Int) == (y.params.length : Int)) with
  | false =>
    have tl2 := bne_t tl
    have HB : Hid (r = false) := by show r = false; rw [HR.out]; exact eqv_f fun h => by injection h with h1 h2; rw [h1] at tl; simp at tl
    go_wp2_with fail
    go_ret
    exact ⟨by rw [HB.out]; rfl, hbW⟩
  | true =>
    have tl2 := bne_f tl
    cases tr : (x.result.toList == y.result.toList) with
    | false =>
      have HB : Hid (r = false) := by show r = false; rw [HR.out]; exact eqv_f fun h => by injection h with h1 h2; rw [h2] at tr; simp at tr
      go_wp2_with fail
      go_ret
      exact ⟨by rw [HB.out]; rfl, hbW⟩
    | true =>
      have HL : Hid (x.params.length = y.params.length) := by show _ = _; have := eq_of_beq tl; omega
      have hle : x.params.length ≤ y.params.length := by rw [HL.out]; exact Nat.le_refl _
      have hge : y.params.length ≤ x.params.length := by rw [HL.out]; exact Nat.le_refl _
      have HT : Hid (x.result = y.result) := eqS_iff.1 tr
      go_wp2_with fail
      go_loopw [5] (fun i wr => ∃ k : Nat, k ≤ x.params.length ∧ i = .int .i64 k ∧ Hid (∀ i (hi : i < k) (h1 : i < x.params.length) (h2 : i < y.params.length), x.params[i] = y.params[i]) ∧ Below W1.heap.size W1 wr) (fun i _ => x.params.length - (intOf i).toNat)
      case atStart => exact ⟨0, Nat.zero_le _, rfl, fun i hi => by omega, Below.refl _ _⟩
      case round =>
        clear x0 y0 x1 y1 x2 y2 x3 y3 xl yl tl tl2 tr
        obtain ⟨k, hk, rfl, HE, hbw⟩ := hrel
        have bx2 := bx.mono hbw
        have by2 := bY.mono hbw
        have x2 := bx2.cell 2 rfl
        have y2 := by2.cell 2 rfl
        have xl := bx2.lt
        have yl := by2.lt
        have hbf := below_step hbW hbw
        by_cases hlt : k < x.params.length
        · have hlt2 : k < y.params.length := by omega
          obtain ⟨b, o, rfl, hb, d0⟩ := (hsx.mono hbf).str_at hlt
          obtain ⟨b2, o2, rfl, hb2, d2⟩ := (hsy.mono hbf).str_at hlt2
          cases hq : (x.params[k].toList == y.params[k].toList) with
          | false =>
            have HB : Hid (r = false) := by
              show r = false
              rw [HR.out]
              exact eqv_f fun h => by
                injection h with h1 h2
                have h3 : x.params[k] = y.params[k] := by simp only [h1]
                rw [h3] at hq; simp at hq
            go_wp2_with fail
            refine wp_region_later (by kernel_rfl) (by kernel_rfl) ?_
            repeat (go_big_quiet_step (fail))
            refine wpQuiet_nil ?_
            rintro _ ⟨z, rfl⟩
            go_wp2_with fail
            go_ret
            exact ⟨by rw [HB.out]; rfl, below_step hbf z.h⟩
          | true =>
            have HE2 : Hid (∀ i (hi : i < k + 1) (h1 : i < x.params.length) (h2 : i < y.params.length), x.params[i] = y.params[i]) := fun i hi h1 h2 => by
              by_cases e : i = k
              · subst e; exact eqS_iff.1 hq
              · exact HE.out i (by omega) h1 h2
            go_wp2_with fail
            refine wp_region_later (by kernel_rfl) (by kernel_rfl) ?_
            repeat (go_big_quiet_step (fail))
            refine wpQuiet_nil ?_
            rintro _ ⟨z, rfl⟩
            go_wp2_with fail
            go_roundw
            case rel => exact ⟨k + 1, by omega, by go_num, HE2, below_step hbw z.h⟩
            case measure => simp [intOf]; omega
        · have HB : Hid (r = true) := by
            show r = true
            rw [HR.out]
            exact eqv_t (by rw [List.ext_getElem HL.out (fun i h1 h2 => HE.out i (by omega) h1 h2), HT.out])
          go_wp2_with fail
          go_ret
          exact ⟨by rw [HB.out]; rfl, hbf⟩

set_option maxRecDepth 100000 in
set_option maxHeartbeats 8000000 in
theorem refHier_any (x y : List Cls) (AX BX : Option Addr) (cx cy : Nat) (w : World) (hlx : x.length ≤ 8796093022208) (hly : y.length ≤ 8796093022208) (hox : Hid (LensOk x)) (hoy : Hid (LensOk y)) (hsx : Sl Lay.cls w AX x) (hsy : Sl Lay.cls w BX y) :
    Calls Tryz.prog 58 #[.agg #[.slice AX x.length cx], .agg #[.slice BX y.length cy]] w fun e w' => e = .returned (.bool (eqv x y)) ∧ Below w.heap.size w w' := by
  obtain ⟨r, HR⟩ : ∃ r, Hid (r = eqv x y) := ⟨_, Lib.hid rfl⟩
  rw [← HR.out]
  go_enter Tryz.func58, Tryz.ntmps58
  go_upto_region 1 with fail
  generalize hW : World.alloc (World.alloc _ _) _ = W1 at *
  have hbW : Below w.heap.size w W1 := by rw [← hW]; exact (by repeat (first | assumption | exact Below.refl _ _ | apply bw_alloc | apply bw_drew | apply bw_drewN | apply bw_later | apply bw_step))
  have bx : Box W1 w.heap.size [.slice AX x.length cx] 24 := by rw [← hW]; exact (by repeat (first | (refine Box.at ?_; (simp; done)) | apply Box.drew | apply Box.alloc | assumption))
  have bY : Box W1 (w.heap.size + 1) [.slice BX y.length cy] 24 := by rw [← hW]; exact (by repeat (first | (refine Box.at ?_; (simp; done)) | apply Box.drew | apply Box.alloc | assumption))
  clear hW
  have xl := bx.lt
  have yl := bY.lt
  have x0 := bx.cell 0 rfl
  have y0 := bY.cell 0 rfl
  cases tl : ((x.length : Int) == (y.length : Int)) with
  | false =>
    have tl2 := bne_t tl
    have HB : Hid (r = false) := by show r = false; rw [HR.out]; exact eqv_f fun h => by rw [h] at tl; simp at tl
    go_wp2_with fail
    go_ret
    exact ⟨by rw [HB.out]; rfl, hbW⟩
  | true =>
    have tl2 := bne_f tl
    have HL : Hid (x.length = y.length) := by show _ = _; have := eq_of_beq tl; omega
    have hle : x.length ≤ y.length := by rw [HL.out]; exact Nat.le_refl _
    have hge : y.length ≤ x.length := by rw [HL.out]; exact Nat.le_refl _
    go_wp2_with fail
    go_loopw [5] (fun i wr => ∃ k : Nat, k ≤ x.length ∧ i = .int .i64 k ∧ Hid (∀ i (hi : i < k) (h1 : i < x.length) (h2 : i < y.length), x[i] = y[i]) ∧ Below W1.heap.size W1 wr) (fun i _ => x.length - (intOf i).toNat)
    case atStart => exact ⟨0, Nat.zero_le _, rfl, fun i hi => by omega, Below.refl _ _⟩
    case round =>
      clear x0 y0 xl yl tl tl2
      obtain ⟨k, hk, rfl, HE, hbw⟩ := hrel
      have bx2 := bx.mono hbw
      have by2 := bY.mono hbw
      have x0 := bx2.cell 0 rfl
      have y0 := by2.cell 0 rfl
      have xl := bx2.lt
      have yl := by2.lt
      have hbf := below_step hbW hbw
      by_cases hlt : k < x.length
      · have hlt2 : k < y.length := by omega
        obtain ⟨g1, o1, A0, a0, A1, a1, rfl, hb1, d0, d1, d2, d3, hc0, hs0, hc1, hs1⟩ := (hsx.mono hbf).cls_at hlt
        obtain ⟨g2, o2, B0, b0, B1, b1, rfl, hb2, f0, f1, f2, f3, hd0, ht0, hd1, ht1⟩ := (hsy.mono hbf).cls_at hlt2
        have hoC := hox.out _ (List.getElem_mem hlt)
        have hoD := hoy.out _ (List.getElem_mem hlt2)
        obtain ⟨C, HC⟩ : ∃ C, Hid (C = x[k]) := ⟨_, Lib.hid rfl⟩
        obtain ⟨D, HD⟩ : ∃ D, Hid (D = y[k]) := ⟨_, Lib.hid rfl⟩
        rw [← HC.out] at d0 d1 d2 d3 hc0 hs0 hc1 hs1 hoC
        rw [← HD.out] at f0 f1 f2 f3 hd0 ht0 hd1 ht1 hoD
        have HRF : Hid (¬ C = D → r = false) := fun hn => by
          rw [HR.out]
          exact eqv_f fun h => hn (by rw [HC.out, HD.out]; simp only [h])
        have HEK : Hid (C = D → ∀ i (hi : i < k + 1) (h1 : i < x.length) (h2 : i < y.length), x[i] = y[i]) := fun hk2 i hi h1 h2 => by
          by_cases e : i = k
          · subst e; rw [← HC.out, ← HD.out]; exact hk2
          · exact HE.out i (by omega) h1 h2
        clear HE
        go_upto_region 6 with fail
        go_cut [6, 7] (fun p6 p7 wx => ∃ g6 g7, p6 = .pointer (some ⟨g6, 0, none⟩) ∧ p7 = .pointer (some ⟨g7, 0, none⟩) ∧ Box wx g6 [.string C.name, .string C.super, .slice A0 C.fields.length a0, .slice A1 C.methods.length a1] 64 ∧ Box wx g7 [.string D.name, .string D.super, .slice B0 D.fields.length b0, .slice B1 D.methods.length b1] 64 ∧ Below wr.heap.size wr wx)
        case first =>
          refine wp_region_RZ 14 (by kernel_rfl) (by kernel_rfl) ?_
          refine RZ.chunk (f := 4) [0, 1, 2, 3, 4, 5, 6, 7, 8, 9] (by kernel_rfl) ?_
          ((simp only [pickOps, List.filterMap, List.getElem?_toArray, List.getElem?_cons_zero, List.getElem?_cons_succ]); (repeat (go_big_quiet_step (fail))); refine wpQuiet_nil ?_)
          refine RZ.both 10 11 rfl rfl (by kernel_rfl) (by omega) (by omega) ?_ ?_
          · intro K hK
            go_wp2_with fail
            refine hK _ _ (bw_alloc (Below.refl _ _)) ?_
            clear hK
            refine RZ.single 11 rfl (by kernel_rfl) (by omega) ?_
            intro K hK
            go_wp2_with fail
            refine hK _ _ (bw_alloc (bw_alloc (Below.refl _ _))) ?_
            clear hK
            generalize hW : World.drew (World.alloc (World.alloc _ _) _) = W2
            have hb2 : Below wr.heap.size wr W2 := by rw [← hW]; exact (by repeat (first | assumption | exact Below.refl _ _ | apply bw_alloc | apply bw_drew | apply bw_drewN | apply bw_later | apply bw_step))
            have b5 : Box W2 wr.heap.size [.string ⟨#[]⟩, .string ⟨#[]⟩, .slice none 0 0, .slice none 0 0] 64 := by rw [← hW]; exact (by repeat (first | (refine Box.at ?_; (simp; done)) | apply Box.drew | apply Box.alloc | assumption))
            have b6 : Box W2 (wr.heap.size + 1) [.string ⟨#[]⟩, .string ⟨#[]⟩, .slice none 0 0, .slice none 0 0] 64 := by rw [← hW]; exact (by repeat (first | (refine Box.at ?_; (simp; done)) | apply Box.drew | apply Box.alloc | assumption))
            clear hW
            have l5 := b5.lt
            have f5 := fun i => b5.free i
            have z0 := b5.cell 0 rfl
            have z1 := b5.cell 1 rfl
            have z2 := b5.cell 2 rfl
            have z3 := b5.cell 3 rfl
            obtain ⟨b5', hg5⟩ := b5.store4 (.string C.name) (.string C.super) (.slice A0 C.fields.length a0) (.slice A1 C.methods.length a1)
            have b6' := b6.grown hg5 (by simp)
            have hb3 := hb2.grown hg5 hb2.size (fun k hk => by injection hk with hk; omega)
            refine RZ.single 12 rfl (by kernel_rfl) (by omega) ?_
            intro K hK
            go_wp2_with fail
            refine hK _ _ (below_undrewZ hb3) ?_
            clear hK
            generalize World.setCell (World.setCell (World.setCell (World.setCell _ _ _) _ _) _ _) _ _ = W3 at *
            clear z0 z1 z2 z3 f5
            have l6 := b6'.lt
            have f6 := fun i => b6'.free i
            have z0 := b6'.cell 0 rfl
            have z1 := b6'.cell 1 rfl
            have z2 := b6'.cell 2 rfl
            have z3 := b6'.cell 3 rfl
            obtain ⟨b6'', hg6⟩ := b6'.store4 (.string D.name) (.string D.super) (.slice B0 D.fields.length b0) (.slice B1 D.methods.length b1)
            have b5'' := b5'.grown hg6 (by simp)
            have hb4 := hb3.grown hg6 hb3.size (fun k hk => by injection hk with hk; omega)
            refine RZ.single 13 rfl (by kernel_rfl) (by omega) ?_
            intro K hK
            go_wp2_with fail
            refine hK _ _ (below_undrewZ hb4) ?_
            clear hK
            (refine RZ.done (by kernel_rfl) (by kernel_rfl) ?_)
            go_wp2_with fail
            go_meet
            exact ⟨_, _, rfl, rfl, b5'', b6'', hb4⟩
          · intro K hK
            go_wp2_with fail
            refine hK _ _ (bw_alloc (Below.refl _ _)) ?_
            clear hK
            refine RZ.single 10 rfl (by kernel_rfl) (by omega) ?_
            intro K hK
            go_wp2_with fail
            refine hK _ _ (bw_alloc (bw_alloc (Below.refl _ _))) ?_
            clear hK
            generalize hW : World.drew (World.alloc (World.alloc _ _) _) = W2
            have hb2 : Below wr.heap.size wr W2 := by rw [← hW]; exact (by repeat (first | assumption | exact Below.refl _ _ | apply bw_alloc | apply bw_drew | apply bw_drewN | apply bw_later | apply bw_step))
            have b5 : Box W2 (wr.heap.size + 1) [.string ⟨#[]⟩, .string ⟨#[]⟩, .slice none 0 0, .slice none 0 0] 64 := by rw [← hW]; exact (by repeat (first | (refine Box.at ?_; (simp; done)) | apply Box.drew | apply Box.alloc | assumption))
            have b6 : Box W2 wr.heap.size [.string ⟨#[]⟩, .string ⟨#[]⟩, .slice none 0 0, .slice none 0 0] 64 := by rw [← hW]; exact (by repeat (first | (refine Box.at ?_; (simp; done)) | apply Box.drew | apply Box.alloc | assumption))
            clear hW
            have l5 := b5.lt
            have f5 := fun i => b5.free i
            have z0 := b5.cell 0 rfl
            have z1 := b5.cell 1 rfl
            have z2 := b5.cell 2 rfl
            have z3 := b5.cell 3 rfl
            obtain ⟨b5', hg5⟩ := b5.store4 (.string C.name) (.string C.super) (.slice A0 C.fields.length a0) (.slice A1 C.methods.length a1)
            have b6' := b6.grown hg5 (by simp)
            have hb3 := hb2.grown hg5 hb2.size (fun k hk => by injection hk with hk; omega)
            refine RZ.single 12 rfl (by kernel_rfl) (by omega) ?_
            intro K hK
            go_wp2_with fail
            refine hK _ _ (below_undrewZ hb3) ?_
            clear hK
            generalize World.setCell (World.setCell (World.setCell (World.setCell _ _ _) _ _) _ _) _ _ = W3 at *
            clear z0 z1 z2 z3 f5
            have l6 := b6'.lt
            have f6 := fun i => b6'.free i
            have z0 := b6'.cell 0 rfl
            have z1 := b6'.cell 1 rfl
            have z2 := b6'.cell 2 rfl
            have z3 := b6'.cell 3 rfl
            obtain ⟨b6'', hg6⟩ := b6'.store4 (.string D.name) (.string D.super) (.slice B0 D.fields.length b0) (.slice B1 D.methods.length b1)
            have b5'' := b5'.grown hg6 (by simp)
            have hb4 := hb3.grown hg6 hb3.size (fun k hk => by injection hk with hk; omega)
            refine RZ.single 13 rfl (by kernel_rfl) (by omega) ?_
            intro K hK
            go_wp2_with fail
            refine hK _ _ (below_undrewZ hb4) ?_
            clear hK
            (refine RZ.done (by kernel_rfl) (by kernel_rfl) ?_)
            go_wp2_with fail
            go_meet
            exact ⟨_, _, rfl, rfl, b5'', b6'', hb4⟩
        case rest =>
          obtain ⟨g6, g7, rfl, rfl, b6, b7, hbc⟩ := hcut
          have hbf2 := below_step hbf hbc
          have hbw2 := below_step hbw hbc
          clear x0 y0 xl yl bx2 by2 d0 d1 d2 d3 f0 f1 f2 f3
          have hs0c := hs0.mono hbc
          clear hs0
          have ht0c := ht0.mono hbc
          clear ht0
          have hs1c := hs1.mono hbc
          clear hs1
          have ht1c := ht1.mono hbc
          clear ht1
          have x0 := b6.cell 0 rfl
          have x1 := b6.cell 1 rfl
          have x2 := b6.cell 2 rfl
          have x3 := b6.cell 3 rfl
          have y0 := b7.cell 0 rfl
          have y1 := b7.cell 1 rfl
          have y2 := b7.cell 2 rfl
          have y3 := b7.cell 3 rfl
          have xl := b6.lt
          have yl := b7.lt
          cases t1 : (C.name.toList == D.name.toList) with
          | false =>
            have HB : Hid (r = false) := HRF.out fun h => by rw [h] at t1; simp at t1
            go_wp2_with fail
            go_ret
            exact ⟨by rw [HB.out]; rfl, hbf2⟩
          | true =>
            cases t2 : (C.super.toList == D.super.toList) with
            | false =>
              have HB : Hid (r = false) := HRF.out fun h => by rw [h] at t2; simp at t2
              go_wp2_with fail
              go_ret
              exact ⟨by rw [HB.out]; rfl, hbf2⟩
            | true =>
              cases t3 : ((C.fields.length : Int) == (D.fields.length : Int)) with
              | false =>
                have u3 := bne_t t3
                have HB : Hid (r = false) := HRF.out fun h => by rw [h] at t3; simp at t3
                go_wp2_with fail
                go_ret
                exact ⟨by rw [HB.out]; rfl, hbf2⟩
              | true =>
                cases t4 : ((C.methods.length : Int) == (D.methods.length : Int)) with
                | false =>
                  have u3 := bne_f t3
                  have u4 := bne_t t4
                  have HB : Hid (r = false) := HRF.out fun h => by rw [h] at t4; simp at t4
                  go_wp2_with fail
                  go_ret
                  exact ⟨by rw [HB.out]; rfl, hbf2⟩
                | true =>
                  have HL1 : Hid (C.fields.length = D.fields.length) := by show _ = _; have := eq_of_beq t3; omega
                  have HL2 : Hid (C.methods.length = D.methods.length) := by show _ = _; have := eq_of_beq t4; omega
                  have e1 : C.fields.length ≤ D.fields.length := by rw [HL1.out]; exact Nat.le_refl _
                  have e2 : D.fields.length ≤ C.fields.length := by rw [HL1.out]; exact Nat.le_refl _
                  have e3 : C.methods.length ≤ D.methods.length := by rw [HL2.out]; exact Nat.le_refl _
                  have e4 : D.methods.length ≤ C.methods.length := by rw [HL2.out]; exact Nat.le_refl _
                  have HN1 : Hid (C.name = D.name) := eqS_iff.1 t1
                  have HN2 : Hid (C.super = D.super) := eqS_iff.1 t2
                  have u3 := bne_f t3
                  have u4 := bne_f t4
                  obtain ⟨l1, l2, l3⟩ := hoC
                  obtain ⟨m1, m2, m3⟩ := hoD
                  have l3 := Lib.hid l3
                  have m3 := Lib.hid m3
                  go_wp2_with fail
                  clear t1 t2 t3 t4 u3 u4 x0 x1 x2 x3 y0 y1 y2 y3 xl yl
                  obtain ⟨wo, rfl⟩ : ∃ wo : World, wo = wr := ⟨_, rfl⟩
                  go_loopw [8] (fun i wr => ∃ j : Nat, j ≤ C.fields.length ∧ i = .int .i64 j ∧ Hid (∀ i (hi : i < j) (h1 : i < C.fields.length) (h2 : i < D.fields.length), C.fields[i] = D.fields[i]) ∧ Below wc.heap.size wc wr) (fun i _ => C.fields.length - (intOf i).toNat)
                  case atStart => exact ⟨0, Nat.zero_le _, rfl, fun i hi => by omega, Below.refl _ _⟩
                  case round =>
                    obtain ⟨j, hj, rfl, HEF, hbj⟩ := hrel
                    have b8 := b6.mono hbj
                    have b9 := b7.mono hbj
                    have x2 := b8.cell 2 rfl
                    have y2 := b9.cell 2 rfl
                    have xl := b8.lt
                    have yl := b9.lt
                    by_cases hjl : j < C.fields.length
                    · have hjl2 : j < D.fields.length := by omega
                      obtain ⟨b1', o1', rfl, hb1', d0, d1⟩ := (hs0c.mono hbj).fld_at hjl
                      obtain ⟨b2', o2', rfl, hb2', f0, f1⟩ := (ht0c.mono hbj).fld_at hjl2
                      obtain ⟨q, HQ⟩ : ∃ q, Hid (q = eqv C.fields[j] D.fields[j]) := ⟨_, Lib.hid rfl⟩
                      have hfn := fld_neq C.fields[j].name C.fields[j].typ D.fields[j].name D.fields[j].typ
                      rw [show eqv (Fld.mk C.fields[j].name C.fields[j].typ) (Fld.mk D.fields[j].name D.fields[j].typ) = q from HQ.out.symm] at hfn
                      cases q with
                      | false =>
                        have HB : Hid (r = false) := HRF.out fun h => eqv_ne.1 HQ.out.symm (by simp only [h])
                        go_wp2_with fail
                        refine wp_region_later (by kernel_rfl) (by kernel_rfl) ?_
                        repeat (go_big_quiet_step (fail))
                        refine wpQuiet_nil ?_
                        rintro _ ⟨z, rfl⟩
                        go_wp2_with fail
                        go_ret
                        exact ⟨by rw [HB.out]; rfl, below_step (below_step hbf2 hbj) z.h⟩
                      | true =>
                        have HE2 : Hid (∀ i (hi : i < j + 1) (h1 : i < C.fields.length) (h2 : i < D.fields.length), C.fields[i] = D.fields[i]) := fun i hi h1 h2 => by
                          by_cases e : i = j
                          · subst e; exact eqv_iff.1 HQ.out.symm
                          · exact HEF.out i (by omega) h1 h2
                        go_wp2_with fail
                        refine wp_region_later (by kernel_rfl) (by kernel_rfl) ?_
                        repeat (go_big_quiet_step (fail))
                        refine wpQuiet_nil ?_
                        rintro _ ⟨z, rfl⟩
                        go_wp2_with fail
                        go_roundw
                        case rel => exact ⟨j + 1, by omega, by go_num, HE2, below_step hbj z.h⟩
                        case measure => simp [intOf]; omega
                    · have HF : Hid (C.fields = D.fields) := List.ext_getElem HL1.out (fun i h1 h2 => HEF.out i (by omega) h1 h2)
                      go_wp2_with fail
                      clear x2 y2 xl yl hjl hj HEF
                      obtain ⟨wp, rfl⟩ : ∃ wp : World, wp = wr := ⟨_, rfl⟩
                      go_loopw [9] (fun i wr => ∃ j : Nat, j ≤ C.methods.length ∧ i = .int .i64 j ∧ Hid (∀ i (hi : i < j) (h1 : i < C.methods.length) (h2 : i < D.methods.length), C.methods[i] = D.methods[i]) ∧ Below wp.heap.size wp wr) (fun i _ => C.methods.length - (intOf i).toNat)
                      case atStart => exact ⟨0, Nat.zero_le _, rfl, fun i hi => by omega, Below.refl _ _⟩
                      case round =>
                        obtain ⟨j, hj, rfl, HEF, hbm⟩ := hrel
                        have bA := b8.mono hbm
                        have bB := b9.mono hbm
                        have x3 := bA.cell 3 rfl
                        have y3 := bB.cell 3 rfl
                        have xl := bA.lt
                        have yl := bB.lt
                        have hbjm := below_step hbj hbm
                        have hbf3 := below_step hbf2 hbjm
                        by_cases hjl : j < C.methods.length
                        · have hjl2 : j < D.methods.length := by omega
                          obtain ⟨b1', o1', A2', c2', rfl, hb1', d0, d1, d2, d3, hc2', hs2'⟩ := (hs1c.mono hbjm).sg_at hjl
                          obtain ⟨b2', o2', B2', e2', rfl, hb2', f0, f1, f2, f3, hd2', ht2'⟩ := (ht1c.mono hbjm).sg_at hjl2
                          have HCS := Lib.hid (fun W h => refSig_any C.methods[j] D.methods[j] A2' B2' c2' e2' W (l3.out _ (List.getElem_mem hjl)) (m3.out _ (List.getElem_mem hjl2)) (hs2'.mono h) (ht2'.mono h))
                          obtain ⟨q, HQ⟩ : ∃ q, Hid (q = eqv (C.methods[j].params, C.methods[j].result) (D.methods[j].params, D.methods[j].result)) := ⟨_, Lib.hid rfl⟩
                          rw [← HQ.out] at HCS
                          cases t1 : (C.methods[j].name.toList == D.methods[j].name.toList) with
                          | false =>
                            have HB : Hid (r = false) := HRF.out fun h => by
                              have e : C.methods[j] = D.methods[j] := by simp only [h]
                              rw [e] at t1; simp at t1
                            go_wp2_with fail
                            refine wp_region_later (by kernel_rfl) (by kernel_rfl) ?_
                            repeat (go_big_quiet_step (first | (go_at_call 89; with_reducible exact Calls.later (HCS.out _ (by exact (by repeat (first | assumption | exact Below.refl _ _ | apply bw_alloc | apply bw_drew | apply bw_drewN | apply bw_later | apply bw_step))))) | fail))
                            refine wpQuiet_nil ?_
                            rintro _ ⟨z, rfl⟩
                            go_wp2_with fail
                            go_ret
                            exact ⟨by rw [HB.out]; rfl, below_step hbf3 z.h⟩
                          | true =>
                          cases t2 : (C.methods[j].static == D.methods[j].static) with
                          | false =>
                            have t2' : (C.methods[j].static != D.methods[j].static) = true := by simp [bne, t2]
                            have HB : Hid (r = false) := HRF.out fun h => by
                              have e : C.methods[j] = D.methods[j] := by simp only [h]
                              rw [e] at t2; simp at t2
                            go_wp2_with fail
                            refine wp_region_later (by kernel_rfl) (by kernel_rfl) ?_
                            repeat (go_big_quiet_step (first | (go_at_call 89; with_reducible exact Calls.later (HCS.out _ (by exact (by repeat (first | assumption | exact Below.refl _ _ | apply bw_alloc | apply bw_drew | apply bw_drewN | apply bw_later | apply bw_step))))) | fail))
                            refine wpQuiet_nil ?_
                            rintro _ ⟨z, rfl⟩
                            go_wp2_with fail
                            go_ret
                            exact ⟨by rw [HB.out]; rfl, below_step hbf3 z.h⟩
                          | true =>
                          have t2' : (C.methods[j].static != D.methods[j].static) = false := by simp [bne, t2]
                          cases q with
                          | false =>
                            have HB : Hid (r = false) := HRF.out fun h => eqv_ne.1 HQ.out.symm (by simp only [h])
                            go_wp2_with fail
                            refine wp_region_later (by kernel_rfl) (by kernel_rfl) ?_
                            repeat (go_big_quiet_step (first | (go_at_call 89; with_reducible exact Calls.later (HCS.out _ (by exact (by repeat (first | assumption | exact Below.refl _ _ | apply bw_alloc | apply bw_drew | apply bw_drewN | apply bw_later | apply bw_step))))) | fail))
                            refine wpQuiet_nil ?_
                            rintro _ ⟨z, rfl⟩
                            go_wp2_with fail
                            go_ret
                            exact ⟨by rw [HB.out]; rfl, below_step hbf3 z.h⟩
                          | true =>
                            have HE2 : Hid (∀ i (hi : i < j + 1) (h1 : i < C.methods.length) (h2 : i < D.methods.length), C.methods[i] = D.methods[i]) := fun i hi h1 h2 => by
                              by_cases e : i = j
                              · subst e
                                have e1 := eqS_iff.1 t1
                                have e2 := eq_of_beq t2
                                have e3 := eqv_iff.1 HQ.out.symm
                                injection e3 with e3 e4
                                generalize C.methods[i] = X at *
                                generalize D.methods[i] = Y at *
                                cases X; cases Y
                                simp only at e1 e2 e3 e4
                                rw [e1, e2, e3, e4]
                              · exact HEF.out i (by omega) h1 h2
                            go_wp2_with fail
                            refine wp_region_later (by kernel_rfl) (by kernel_rfl) ?_
                            repeat (go_big_quiet_step (first | (go_at_call 89; with_reducible exact Calls.later (HCS.out _ (by exact (by repeat (first | assumption | exact Below.refl _ _ | apply bw_alloc | apply bw_drew | apply bw_drewN | apply bw_later | apply bw_step))))) | fail))
                            refine wpQuiet_nil ?_
                            rintro _ ⟨z, rfl⟩
                            go_wp2_with fail
                            go_roundw
                            case rel => exact ⟨j + 1, by omega, by go_num, HE2, below_step hbm z.h⟩
                            case measure => simp [intOf]; omega
                        · have HM : Hid (C.methods = D.methods) := List.ext_getElem HL2.out (fun i h1 h2 => HEF.out i (by omega) h1 h2)
                          have HE2 := Lib.hid (HEK.out (by
                            have e1 := HN1.out
                            have e2 := HN2.out
                            have e3 := HF.out
                            have e4 := HM.out
                            generalize C = X at e1 e2 e3 e4 ⊢
                            generalize D = Y at e1 e2 e3 e4 ⊢
                            cases X; cases Y
                            simp only at e1 e2 e3 e4
                            rw [e1, e2, e3, e4]))
                          go_wp2_with fail
                          go_roundw
                          case rel => exact ⟨k + 1, by omega, by go_num, HE2, below_step hbw2 hbjm⟩
                          case measure => simp [intOf]; omega
      · have HB : Hid (r = true) := by
          show r = true
          rw [HR.out]
          exact eqv_t (List.ext_getElem HL.out (fun i h1 h2 => HE.out i (by omega) h1 h2))
        go_wp2_with fail
        go_ret
        exact ⟨by rw [HB.out]; rfl, hbf⟩

set_option maxRecDepth 100000 in
set_option maxHeartbeats 16000000 in
theorem refFunc_any (x y : Fun) (A0 A1 B0 B1 : Option Addr) (cA0 cA1 cB0 cB1 : Nat) (w : World) (hx : x.vars.length ≤ 8796093022208 ∧ x.code.length ≤ 8796093022208 ∧ ∀ z ∈ x.code, z.args.length ≤ 17592186044416) (hy : y.vars.length ≤ 8796093022208 ∧ y.code.length ≤ 8796093022208 ∧ ∀ z ∈ y.code, z.args.length ≤ 17592186044416) (hs0 : Sl Lay.fld w A0 x.vars) (ht0 : Sl Lay.fld w B0 y.vars) (hs1 : Sl Lay.ins w A1 x.code) (ht1 : Sl Lay.ins w B1 y.code) :
    Calls Tryz.prog 59 #[.agg #[.string x.cls, .string x.name, .bool x.static, .int .i64 x.nparams, .slice A0 x.vars.length cA0, .string x.result, .slice A1 x.code.length cA1], .agg #[.string y.cls, .string y.name, .bool y.static, .int .i64 y.nparams, .slice B0 y.vars.length cB0, .string y.result, .slice B1 y.code.length cB1]] w fun e w' => e = .returned (.bool (eqv x y)) ∧ Below w.heap.size w w' := by
  obtain ⟨r, HR⟩ : ∃ r, Hid (r = eqv x y) := ⟨_, Lib.hid rfl⟩
  rw [← HR.out]
  have HRF : Hid (¬ x = y → r = false) := fun hn => by rw [HR.out]; exact eqv_f hn
  obtain ⟨l1, l2, l3⟩ := hx
  have hx := Lib.hid l3
  obtain ⟨m1, m2, m3⟩ := hy
  have hy := Lib.hid m3
  go_enter Tryz.func59, Tryz.ntmps59
  go_upto_region 1 with fail
  generalize hW : World.alloc (World.alloc _ _) _ = W1 at *
  have hbW : Below w.heap.size w W1 := by rw [← hW]; exact (by repeat (first | assumption | exact Below.refl _ _ | apply bw_alloc | apply bw_drew | apply bw_drewN | apply bw_later | apply bw_step))
  have bx : Box W1 w.heap.size [.string x.cls, .string x.name, .bool x.static, .int .i64 x.nparams, .slice A0 x.vars.length cA0, .string x.result, .slice A1 x.code.length cA1] 43 := by rw [← hW]; exact (by repeat (first | (refine Box.at ?_; (simp; done)) | apply Box.drew | apply Box.alloc | assumption))
  have bY : Box W1 (w.heap.size + 1) [.string y.cls, .string y.name, .bool y.static, .int .i64 y.nparams, .slice B0 y.vars.length cB0, .string y.result, .slice B1 y.code.length cB1] 43 := by rw [← hW]; exact (by repeat (first | (refine Box.at ?_; (simp; done)) | apply Box.drew | apply Box.alloc | assumption))
  clear hW
  have xl := bx.lt
  have yl := bY.lt
  have x0 := bx.cell 0 rfl
  have y0 := bY.cell 0 rfl
  have x1 := bx.cell 1 rfl
  have y1 := bY.cell 1 rfl
  have x2 := bx.cell 2 rfl
  have y2 := bY.cell 2 rfl
  have x3 := bx.cell 3 rfl
  have y3 := bY.cell 3 rfl
  have x4 := bx.cell 4 rfl
  have y4 := bY.cell 4 rfl
  have x5 := bx.cell 5 rfl
  have y5 := bY.cell 5 rfl
  have x6 := bx.cell 6 rfl
  have y6 := bY.cell 6 rfl
  cases t1 : (x.cls.toList == y.cls.toList) with
  | false =>
    have HB : Hid (r = false) := HRF.out fun h => by rw [h] at t1; simp at t1
    go_wp2_with fail
    go_ret
    exact ⟨by rw [HB.out]; rfl, hbW⟩
  | true =>
    cases t2 : (x.name.toList == y.name.toList) with
    | false =>
      have HB : Hid (r = false) := HRF.out fun h => by rw [h] at t2; simp at t2
      go_wp2_with fail
      go_ret
      exact ⟨by rw [HB.out]; rfl, hbW⟩
    | true =>
      cases t3 : (x.static == y.static) with
      | false =>
        have u3 : (x.static != y.static) = true := by simp [bne, t3]
        have HB : Hid (r = false) := HRF.out fun h => by rw [h] at t3; simp at t3
        go_wp2_with fail
        go_ret
        exact ⟨by rw [HB.out]; rfl, hbW⟩
      | true =>
        cases t4 : (x.nparams == y.nparams) with
        | false =>
          have u3 : (x.static != y.static) = false := by simp [bne, t3]
          have u4 := bne_t t4
          have HB : Hid (r = false) := HRF.out fun h => by rw [h] at t4; simp at t4
          go_wp2_with fail
          go_ret
          exact ⟨by rw [HB.out]; rfl, hbW⟩
        | true =>
          cases t5 : (x.result.toList == y.result.toList) with
          | false =>
            have u3 : (x.static != y.static) = false := by simp [bne, t3]
            have u4 := bne_f t4
            have HB : Hid (r = false) := HRF.out fun h => by rw [h] at t5; simp at t5
            go_wp2_with fail
            go_ret
            exact ⟨by rw [HB.out]; rfl, hbW⟩
          | true =>
            cases t6 : ((x.vars.length : Int) == (y.vars.length : Int)) with
            | false =>
              have u3 : (x.static != y.static) = false := by simp [bne, t3]
              have u4 := bne_f t4
              have u6 := bne_t t6
              have HB : Hid (r = false) := HRF.out fun h => by rw [h] at t6; simp at t6
              go_wp2_with fail
              go_ret
              exact ⟨by rw [HB.out]; rfl, hbW⟩
            | true =>
              cases t7 : ((x.code.length : Int) == (y.code.length : Int)) with
              | false =>
                have u3 : (x.static != y.static) = false := by simp [bne, t3]
                have u4 := bne_f t4
                have u6 := bne_f t6
                have u7 := bne_t t7
                have HB : Hid (r = false) := HRF.out fun h => by rw [h] at t7; simp at t7
                go_wp2_with fail
                go_ret
                exact ⟨by rw [HB.out]; rfl, hbW⟩
              | true =>
                have u3 : (x.static != y.static) = false := by simp [bne, t3]
                have u4 := bne_f t4
                have u6 := bne_f t6
                have u7 := bne_f t7
                have HL1 : Hid (x.vars.length = y.vars.length) := by show _ = _; have := eq_of_beq t6; omega
                have HL2 : Hid (x.code.length = y.code.length) := by show _ = _; have := eq_of_beq t7; omega
                have e1 : x.vars.length ≤ y.vars.length := by rw [HL1.out]; exact Nat.le_refl _
                have e2 : y.vars.length ≤ x.vars.length := by rw [HL1.out]; exact Nat.le_refl _
                have e3 : x.code.length ≤ y.code.length := by rw [HL2.out]; exact Nat.le_refl _
                have e4 : y.code.length ≤ x.code.length := by rw [HL2.out]; exact Nat.le_refl _
                have HN1 : Hid (x.cls = y.cls) := eqS_iff.1 t1
                have HN2 : Hid (x.name = y.name) := eqS_iff.1 t2
                have HN3 : Hid (x.static = y.static) := eq_of_beq t3
                have HN4 : Hid (x.nparams = y.nparams) := eq_of_beq t4
                have HN5 : Hid (x.result = y.result) := eqS_iff.1 t5
                go_wp2_with fail
                clear t1 t2 t3 t4 t5 t6 t7 u3 u4 u6 u7 x0 x1 x2 x3 x4 x5 x6 y0 y1 y2 y3 y4 y5 y6 xl yl
                go_loopw [5] (fun i wr => ∃ j : Nat, j ≤ x.vars.length ∧ i = .int .i64 j ∧ Hid (∀ i (hi : i < j) (h1 : i < x.vars.length) (h2 : i < y.vars.length), x.vars[i] = y.vars[i]) ∧ Below W1.heap.size W1 wr) (fun i _ => x.vars.length - (intOf i).toNat)
                case atStart => exact ⟨0, Nat.zero_le _, rfl, fun i hi => by omega, Below.refl _ _⟩
                case round =>
                  obtain ⟨j, hj, rfl, HEF, hbj⟩ := hrel
                  have b8 := bx.mono hbj
                  have b9 := bY.mono hbj
                  have x4 := b8.cell 4 rfl
                  have y4 := b9.cell 4 rfl
                  have xl := b8.lt
                  have yl := b9.lt
                  have hbf := below_step hbW hbj
                  by_cases hjl : j < x.vars.length
                  · have hjl2 : j < y.vars.length := by omega
                    obtain ⟨b1', o1', rfl, hb1', d0, d1⟩ := (hs0.mono hbf).fld_at hjl
                    obtain ⟨b2', o2', rfl, hb2', f0, f1⟩ := (ht0.mono hbf).fld_at hjl2
                    obtain ⟨q, HQ⟩ : ∃ q, Hid (q = eqv x.vars[j] y.vars[j]) := ⟨_, Lib.hid rfl⟩
                    have hfn := fld_neq x.vars[j].name x.vars[j].typ y.vars[j].name y.vars[j].typ
                    rw [show eqv (Fld.mk x.vars[j].name x.vars[j].typ) (Fld.mk y.vars[j].name y.vars[j].typ) = q from HQ.out.symm] at hfn
                    cases q with
                    | false =>
                      have HB : Hid (r = false) := HRF.out fun h => eqv_ne.1 HQ.out.symm (by simp only [h])
                      go_wp2_with fail
                      refine wp_region_later (by kernel_rfl) (by kernel_rfl) ?_
                      repeat (go_big_quiet_step (fail))
                      refine wpQuiet_nil ?_
                      rintro _ ⟨z, rfl⟩
                      go_wp2_with fail
                      go_ret
                      exact ⟨by rw [HB.out]; rfl, below_step hbf z.h⟩
                    | true =>
                      have HE2 : Hid (∀ i (hi : i < j + 1) (h1 : i < x.vars.length) (h2 : i < y.vars.length), x.vars[i] = y.vars[i]) := fun i hi h1 h2 => by
                        by_cases e : i = j
                        · subst e; exact eqv_iff.1 HQ.out.symm
                        · exact HEF.out i (by omega) h1 h2
                      go_wp2_with fail
                      refine wp_region_later (by kernel_rfl) (by kernel_rfl) ?_
                      repeat (go_big_quiet_step (fail))
                      refine wpQuiet_nil ?_
                      rintro _ ⟨z, rfl⟩
                      go_wp2_with fail
                      go_roundw
                      case rel => exact ⟨j + 1, by omega, by go_num, HE2, below_step hbj z.h⟩
                      case measure => simp [intOf]; omega
                  · have HF : Hid (x.vars = y.vars) := List.ext_getElem HL1.out (fun i h1 h2 => HEF.out i (by omega) h1 h2)
                    go_wp2_with fail
                    clear x4 y4 xl yl hjl hj HEF
                    obtain ⟨wp, rfl⟩ : ∃ wp : World, wp = wr := ⟨_, rfl⟩
                    go_loopw [6] (fun i wr => ∃ j : Nat, j ≤ x.code.length ∧ i = .int .i64 j ∧ Hid (∀ i (hi : i < j) (h1 : i < x.code.length) (h2 : i < y.code.length), x.code[i] = y.code[i]) ∧ Below wp.heap.size wp wr) (fun i _ => x.code.length - (intOf i).toNat)
                    case atStart => exact ⟨0, Nat.zero_le _, rfl, fun i hi => by omega, Below.refl _ _⟩
                    case round =>
                      obtain ⟨j, hj, rfl, HEF, hbm⟩ := hrel
                      have bA := b8.mono hbm
                      have bB := b9.mono hbm
                      have x6 := bA.cell 6 rfl
                      have y6 := bB.cell 6 rfl
                      have xl := bA.lt
                      have yl := bB.lt
                      have hbf3 := below_step hbf hbm
                      by_cases hjl : j < x.code.length
                      · have hjl2 : j < y.code.length := by omega
                        obtain ⟨k1, o1', A7, c7, rfl, hb1', d0, d1, d2, d3, d4, d5, d6, d7, d8, d9, hc7, hs7⟩ := (hs1.mono hbf3).ins_at hjl
                        obtain ⟨k2, o2', B7, e7, rfl, hb2', f0, f1, f2, f3, f4, f5, f6, f7, f8, f9, hd7, ht7⟩ := (ht1.mono hbf3).ins_at hjl2
                        have hlX := hx.out _ (List.getElem_mem hjl)
                        have hlY := hy.out _ (List.getElem_mem hjl2)
                        obtain ⟨X, HX⟩ : ∃ X, Hid (X = x.code[j]) := ⟨_, Lib.hid rfl⟩
                        obtain ⟨Y, HY⟩ : ∃ Y, Hid (Y = y.code[j]) := ⟨_, Lib.hid rfl⟩
                        rw [← HX.out] at d0 d1 d2 d3 d4 d5 d6 d7 d8 d9 hc7 hs7 hlX
                        rw [← HY.out] at f0 f1 f2 f3 f4 f5 f6 f7 f8 f9 hd7 ht7 hlY
                        obtain ⟨q, HQ⟩ : ∃ q, Hid (q = eqv X Y) := ⟨_, Lib.hid rfl⟩
                        have HRQ : Hid (q = false → r = false) := fun h => HRF.out fun e => by
                          rw [HQ.out, eqv_ne] at h
                          exact h (by rw [HX.out, HY.out]; simp only [e])
                        have HE3 : Hid (q = true → ∀ i (hi : i < j + 1) (h1 : i < x.code.length) (h2 : i < y.code.length), x.code[i] = y.code[i]) := fun h i hi h1 h2 => by
                          by_cases e : i = j
                          · subst e
                            rw [HQ.out, eqv_iff, HX.out, HY.out] at h
                            exact h
                          · exact HEF.out i (by omega) h1 h2
                        clear HEF
                        go_upto_region 11 with fail
                        go_cut [7, 8] (fun p6 p7 wx => ∃ g6 g7, p6 = .pointer (some ⟨g6, 0, none⟩) ∧ p7 = .pointer (some ⟨g7, 0, none⟩) ∧ Box wx g6 [.int .i64 X.op, .int .i64 X.dst, .int .i64 X.a, .int .i64 X.b, .int .i64 X.n, .string X.cls, .string X.name, .slice A7 X.args.length c7, .int .i64 X.jmp, .int .i64 X.hnd] 47 ∧ Box wx g7 [.int .i64 Y.op, .int .i64 Y.dst, .int .i64 Y.a, .int .i64 Y.b, .int .i64 Y.n, .string Y.cls, .string Y.name, .slice B7 Y.args.length e7, .int .i64 Y.jmp, .int .i64 Y.hnd] 47 ∧ Below wr.heap.size wr wx)
                        case first =>
                          refine wp_region_RZ 14 (by kernel_rfl) (by kernel_rfl) ?_
                          refine RZ.chunk (f := 4) [0, 1, 2, 3, 4, 5, 6, 7, 8, 9] (by kernel_rfl) ?_
                          ((simp only [pickOps, List.filterMap, List.getElem?_toArray, List.getElem?_cons_zero, List.getElem?_cons_succ]); (repeat (go_big_quiet_step (fail))); refine wpQuiet_nil ?_)
                          refine RZ.both 10 11 rfl rfl (by kernel_rfl) (by omega) (by omega) ?_ ?_
                          · intro K hK
                            go_wp2_with fail
                            refine hK _ _ (bw_alloc (Below.refl _ _)) ?_
                            clear hK
                            refine RZ.single 11 rfl (by kernel_rfl) (by omega) ?_
                            intro K hK
                            go_wp2_with fail
                            refine hK _ _ (bw_alloc (bw_alloc (Below.refl _ _))) ?_
                            clear hK
                            generalize hW : World.drew (World.alloc (World.alloc _ _) _) = W2
                            have hb2 : Below wr.heap.size wr W2 := by rw [← hW]; exact (by repeat (first | assumption | exact Below.refl _ _ | apply bw_alloc | apply bw_drew | apply bw_drewN | apply bw_later | apply bw_step))
                            have b5 : Box W2 wr.heap.size [.int .i64 0, .int .i64 0, .int .i64 0, .int .i64 0, .int .i64 0, .string ⟨#[]⟩, .string ⟨#[]⟩, .slice none 0 0, .int .i64 0, .int .i64 0] 47 := by rw [← hW]; exact (by repeat (first | (refine Box.at ?_; (simp; done)) | apply Box.drew | apply Box.alloc | assumption))
                            have b6 : Box W2 (wr.heap.size + 1) [.int .i64 0, .int .i64 0, .int .i64 0, .int .i64 0, .int .i64 0, .string ⟨#[]⟩, .string ⟨#[]⟩, .slice none 0 0, .int .i64 0, .int .i64 0] 47 := by rw [← hW]; exact (by repeat (first | (refine Box.at ?_; (simp; done)) | apply Box.drew | apply Box.alloc | assumption))
                            clear hW
                            have l5 := b5.lt
                            have f5 := fun i => b5.free i
                            have z0 := b5.cell 0 rfl
                            have z1 := b5.cell 1 rfl
                            have z2 := b5.cell 2 rfl
                            have z3 := b5.cell 3 rfl
                            have z4 := b5.cell 4 rfl
                            have z5 := b5.cell 5 rfl
                            have z6 := b5.cell 6 rfl
                            have z7 := b5.cell 7 rfl
                            have z8 := b5.cell 8 rfl
                            have z9 := b5.cell 9 rfl
                            obtain ⟨b5', hg5⟩ := b5.store10 (.int .i64 X.op) (.int .i64 X.dst) (.int .i64 X.a) (.int .i64 X.b) (.int .i64 X.n) (.string X.cls) (.string X.name) (.slice A7 X.args.length c7) (.int .i64 X.jmp) (.int .i64 X.hnd)
                            have b6' := b6.grown hg5 (by simp)
                            have hb3 := hb2.grown hg5 hb2.size (fun k hk => by injection hk with hk; omega)
                            refine RZ.single 12 rfl (by kernel_rfl) (by omega) ?_
                            intro K hK
                            go_wp2_with fail
                            refine hK _ _ (below_undrewZ hb3) ?_
                            clear hK
                            generalize World.setCell _ _ _ = W3 at *
                            clear z0 z1 z2 z3 z4 z5 z6 z7 z8 z9 f5
                            have l6 := b6'.lt
                            have f6 := fun i => b6'.free i
                            have z0 := b6'.cell 0 rfl
                            have z1 := b6'.cell 1 rfl
                            have z2 := b6'.cell 2 rfl
                            have z3 := b6'.cell 3 rfl
                            have z4 := b6'.cell 4 rfl
                            have z5 := b6'.cell 5 rfl
                            have z6 := b6'.cell 6 rfl
                            have z7 := b6'.cell 7 rfl
                            have z8 := b6'.cell 8 rfl
                            have z9 := b6'.cell 9 rfl
                            obtain ⟨b6'', hg6⟩ := b6'.store10 (.int .i64 Y.op) (.int .i64 Y.dst) (.int .i64 Y.a) (.int .i64 Y.b) (.int .i64 Y.n) (.string Y.cls) (.string Y.name) (.slice B7 Y.args.length e7) (.int .i64 Y.jmp) (.int .i64 Y.hnd)
                            have b5'' := b5'.grown hg6 (by simp)
                            have hb4 := hb3.grown hg6 hb3.size (fun k hk => by injection hk with hk; omega)
                            refine RZ.single 13 rfl (by kernel_rfl) (by omega) ?_
                            intro K hK
                            go_wp2_with fail
                            refine hK _ _ (below_undrewZ hb4) ?_
                            clear hK
                            generalize World.setCell _ _ _ = W4 at *
                            (refine RZ.done (by kernel_rfl) (by kernel_rfl) ?_)
                            go_wp2_with fail
                            go_meet
                            exact ⟨_, _, rfl, rfl, b5'', b6'', hb4⟩
                          · intro K hK
                            go_wp2_with fail
                            refine hK _ _ (bw_alloc (Below.refl _ _)) ?_
                            clear hK
                            refine RZ.single 10 rfl (by kernel_rfl) (by omega) ?_
                            intro K hK
                            go_wp2_with fail
                            refine hK _ _ (bw_alloc (bw_alloc (Below.refl _ _))) ?_
                            clear hK
                            generalize hW : World.drew (World.alloc (World.alloc _ _) _) = W2
                            have hb2 : Below wr.heap.size wr W2 := by rw [← hW]; exact (by repeat (first | assumption | exact Below.refl _ _ | apply bw_alloc | apply bw_drew | apply bw_drewN | apply bw_later | apply bw_step))
                            have b5 : Box W2 (wr.heap.size + 1) [.int .i64 0, .int .i64 0, .int .i64 0, .int .i64 0, .int .i64 0, .string ⟨#[]⟩, .string ⟨#[]⟩, .slice none 0 0, .int .i64 0, .int .i64 0] 47 := by rw [← hW]; exact (by repeat (first | (refine Box.at ?_; (simp; done)) | apply Box.drew | apply Box.alloc | assumption))
                            have b6 : Box W2 wr.heap.size [.int .i64 0, .int .i64 0, .int .i64 0, .int .i64 0, .int .i64 0, .string ⟨#[]⟩, .string ⟨#[]⟩, .slice none 0 0, .int .i64 0, .int .i64 0] 47 := by rw [← hW]; exact (by repeat (first | (refine Box.at ?_; (simp; done)) | apply Box.drew | apply Box.alloc | assumption))
                            clear hW
                            have l5 := b5.lt
                            have f5 := fun i => b5.free i
                            have z0 := b5.cell 0 rfl
                            have z1 := b5.cell 1 rfl
                            have z2 := b5.cell 2 rfl
                            have z3 := b5.cell 3 rfl
                            have z4 := b5.cell 4 rfl
                            have z5 := b5.cell 5 rfl
                            have z6 := b5.cell 6 rfl
                            have z7 := b5.cell 7 rfl
                            have z8 := b5.cell 8 rfl
                            have z9 := b5.cell 9 rfl
                            obtain ⟨b5', hg5⟩ := b5.store10 (.int .i64 X.op) (.int .i64 X.dst) (.int .i64 X.a) (.int .i64 X.b) (.int .i64 X.n) (.string X.cls) (.string X.name) (.slice A7 X.args.length c7) (.int .i64 X.jmp) (.int .i64 X.hnd)
                            have b6' := b6.grown hg5 (by simp)
                            have hb3 := hb2.grown hg5 hb2.size (fun k hk => by injection hk with hk; omega)
                            refine RZ.single 12 rfl (by kernel_rfl) (by omega) ?_
                            intro K hK
                            go_wp2_with fail
                            refine hK _ _ (below_undrewZ hb3) ?_
                            clear hK
                            generalize World.setCell _ _ _ = W3 at *
                            clear z0 z1 z2 z3 z4 z5 z6 z7 z8 z9 f5
                            have l6 := b6'.lt
                            have f6 := fun i => b6'.free i
                            have z0 := b6'.cell 0 rfl
                            have z1 := b6'.cell 1 rfl
                            have z2 := b6'.cell 2 rfl
                            have z3 := b6'.cell 3 rfl
                            have z4 := b6'.cell 4 rfl
                            have z5 := b6'.cell 5 rfl
                            have z6 := b6'.cell 6 rfl
                            have z7 := b6'.cell 7 rfl
                            have z8 := b6'.cell 8 rfl
                            have z9 := b6'.cell 9 rfl
                            obtain ⟨b6'', hg6⟩ := b6'.store10 (.int .i64 Y.op) (.int .i64 Y.dst) (.int .i64 Y.a) (.int .i64 Y.b) (.int .i64 Y.n) (.string Y.cls) (.string Y.name) (.slice B7 Y.args.length e7) (.int .i64 Y.jmp) (.int .i64 Y.hnd)
                            have b5'' := b5'.grown hg6 (by simp)
                            have hb4 := hb3.grown hg6 hb3.size (fun k hk => by injection hk with hk; omega)
                            refine RZ.single 13 rfl (by kernel_rfl) (by omega) ?_
                            intro K hK
                            go_wp2_with fail
                            refine hK _ _ (below_undrewZ hb4) ?_
                            clear hK
                            generalize World.setCell _ _ _ = W4 at *
                            (refine RZ.done (by kernel_rfl) (by kernel_rfl) ?_)
                            go_wp2_with fail
                            go_meet
                            exact ⟨_, _, rfl, rfl, b5'', b6'', hb4⟩
                        case rest =>
                          obtain ⟨g6, g7, rfl, rfl, b6, b7, hbc⟩ := hcut
                          clear x6 y6 xl yl d0 d1 d2 d3 d4 d5 d6 d7 d8 d9 f0 f1 f2 f3 f4 f5 f6 f7 f8 f9 bA bB
                          replace hs7 := hs7.mono hbc
                          replace ht7 := ht7.mono hbc
                          have HCS := Lib.hid (fun W h => refInts_any A7 B7 c7 e7 X.args Y.args W hlX hlY (hs7.mono h) (ht7.mono h))
                          obtain ⟨qa, HQA⟩ : ∃ q, Hid (q = eqv X.args Y.args) := ⟨_, Lib.hid rfl⟩
                          rw [← HQA.out] at HCS
                          have x0 := b6.cell 0 rfl
                          have y0 := b7.cell 0 rfl
                          have x1 := b6.cell 1 rfl
                          have y1 := b7.cell 1 rfl
                          have x2 := b6.cell 2 rfl
                          have y2 := b7.cell 2 rfl
                          have x3 := b6.cell 3 rfl
                          have y3 := b7.cell 3 rfl
                          have x4 := b6.cell 4 rfl
                          have y4 := b7.cell 4 rfl
                          have x5 := b6.cell 5 rfl
                          have y5 := b7.cell 5 rfl
                          have x6 := b6.cell 6 rfl
                          have y6 := b7.cell 6 rfl
                          have x7 := b6.cell 7 rfl
                          have y7 := b7.cell 7 rfl
                          have x8 := b6.cell 8 rfl
                          have y8 := b7.cell 8 rfl
                          have x9 := b6.cell 9 rfl
                          have y9 := b7.cell 9 rfl
                          have xl := b6.lt
                          have yl := b7.lt
                          go_upto_region 12 with fail
                          cases t1 : (X.op == Y.op) with
                          | false =>
                            have u1 := bne_t t1
                            have HQ2 : q = false := by
                              rw [HQ.out]
                              exact eqv_f fun h => by rw [h] at t1; simp at t1
                            have HB := HRQ.out HQ2
                            clear HQ2
                            replace HB := Lib.hid HB
                            refine wp_region_laterN ?_
                            try simp only [List.append_eq, List.cons_append, List.nil_append]
                            repeat (go_big_quiet_step (fail))
                            refine wpQuiet_nil ?_
                            rintro _ ⟨z, rfl⟩
                            have hbd := below_step hbm hbc
                            go_wp2_with fail
                            go_ret
                            exact ⟨by rw [HB.out]; rfl, below_step (below_step hbf3 hbc) z.h⟩
                          | true =>
                            cases t2 : (X.dst == Y.dst) with
                            | false =>
                              have u1 := bne_f t1
                              have u2 := bne_t t2
                              have HQ2 : q = false := by
                                rw [HQ.out]
                                exact eqv_f fun h => by rw [h] at t2; simp at t2
                              have HB := HRQ.out HQ2
                              clear HQ2
                              replace HB := Lib.hid HB
                              refine wp_region_laterN ?_
                              try simp only [List.append_eq, List.cons_append, List.nil_append]
                              repeat (go_big_quiet_step (fail))
                              refine wpQuiet_nil ?_
                              rintro _ ⟨z, rfl⟩
                              have hbd := below_step hbm hbc
                              go_wp2_with fail
                              go_ret
                              exact ⟨by rw [HB.out]; rfl, below_step (below_step hbf3 hbc) z.h⟩
                            | true =>
                              cases t3 : (X.a == Y.a) with
                              | false =>
                                have u1 := bne_f t1
                                have u2 := bne_f t2
                                have u3 := bne_t t3
                                have HQ2 : q = false := by
                                  rw [HQ.out]
                                  exact eqv_f fun h => by rw [h] at t3; simp at t3
                                have HB := HRQ.out HQ2
                                clear HQ2
                                replace HB := Lib.hid HB
                                refine wp_region_laterN ?_
                                try simp only [List.append_eq, List.cons_append, List.nil_append]
                                repeat (go_big_quiet_step (fail))
                                refine wpQuiet_nil ?_
                                rintro _ ⟨z, rfl⟩
                                have hbd := below_step hbm hbc
                                go_wp2_with fail
                                go_ret
                                exact ⟨by rw [HB.out]; rfl, below_step (below_step hbf3 hbc) z.h⟩
                              | true =>
                                cases t4 : (X.b == Y.b) with
                                | false =>
                                  have u1 := bne_f t1
                                  have u2 := bne_f t2
                                  have u3 := bne_f t3
                                  have u4 := bne_t t4
                                  have HQ2 : q = false := by
                                    rw [HQ.out]
                                    exact eqv_f fun h => by rw [h] at t4; simp at t4
                                  have HB := HRQ.out HQ2
                                  clear HQ2
                                  replace HB := Lib.hid HB
                                  refine wp_region_laterN ?_
                                  try simp only [List.append_eq, List.cons_append, List.nil_append]
                                  repeat (go_big_quiet_step (fail))
                                  refine wpQuiet_nil ?_
                                  rintro _ ⟨z, rfl⟩
                                  have hbd := below_step hbm hbc
                                  go_wp2_with fail
                                  go_ret
                                  exact ⟨by rw [HB.out]; rfl, below_step (below_step hbf3 hbc) z.h⟩
                                | true =>
                                  cases t5 : (X.n == Y.n) with
                                  | false =>
                                    have u1 := bne_f t1
                                    have u2 := bne_f t2
                                    have u3 := bne_f t3
                                    have u4 := bne_f t4
                                    have u5 := bne_t t5
                                    have HQ2 : q = false := by
                                      rw [HQ.out]
                                      exact eqv_f fun h => by rw [h] at t5; simp at t5
                                    have HB := HRQ.out HQ2
                                    clear HQ2
                                    replace HB := Lib.hid HB
                                    refine wp_region_laterN ?_
                                    try simp only [List.append_eq, List.cons_append, List.nil_append]
                                    repeat (go_big_quiet_step (fail))
                                    refine wpQuiet_nil ?_
                                    rintro _ ⟨z, rfl⟩
                                    have hbd := below_step hbm hbc
                                    go_wp2_with fail
                                    go_ret
                                    exact ⟨by rw [HB.out]; rfl, below_step (below_step hbf3 hbc) z.h⟩
                                  | true =>
                                    cases t6 : (X.cls.toList == Y.cls.toList) with
                                    | false =>
                                      have u1 := bne_f t1
                                      have u2 := bne_f t2
                                      have u3 := bne_f t3
                                      have u4 := bne_f t4
                                      have u5 := bne_f t5
                                      have HQ2 : q = false := by
                                        rw [HQ.out]
                                        exact eqv_f fun h => by rw [h] at t6; simp at t6
                                      have HB := HRQ.out HQ2
                                      clear HQ2
                                      replace HB := Lib.hid HB
                                      refine wp_region_laterN ?_
                                      try simp only [List.append_eq, List.cons_append, List.nil_append]
                                      repeat (go_big_quiet_step (fail))
                                      refine wpQuiet_nil ?_
                                      rintro _ ⟨z, rfl⟩
                                      have hbd := below_step hbm hbc
                                      go_wp2_with fail
                                      go_ret
                                      exact ⟨by rw [HB.out]; rfl, below_step (below_step hbf3 hbc) z.h⟩
                                    | true =>
                                      cases t7 : (X.name.toList == Y.name.toList) with
                                      | false =>
                                        have u1 := bne_f t1
                                        have u2 := bne_f t2
                                        have u3 := bne_f t3
                                        have u4 := bne_f t4
                                        have u5 := bne_f t5
                                        have HQ2 : q = false := by
                                          rw [HQ.out]
                                          exact eqv_f fun h => by rw [h] at t7; simp at t7
                                        have HB := HRQ.out HQ2
                                        clear HQ2
                                        replace HB := Lib.hid HB
                                        refine wp_region_laterN ?_
                                        try simp only [List.append_eq, List.cons_append, List.nil_append]
                                        repeat (go_big_quiet_step (fail))
                                        refine wpQuiet_nil ?_
                                        rintro _ ⟨z, rfl⟩
                                        have hbd := below_step hbm hbc
                                        go_wp2_with fail
                                        go_ret
                                        exact ⟨by rw [HB.out]; rfl, below_step (below_step hbf3 hbc) z.h⟩
                                      | true =>
                                        cases t8 : (X.jmp == Y.jmp) with
                                        | false =>
                                          have u1 := bne_f t1
                                          have u2 := bne_f t2
                                          have u3 := bne_f t3
                                          have u4 := bne_f t4
                                          have u5 := bne_f t5
                                          have u8 := bne_t t8
                                          have HQ2 : q = false := by
                                            rw [HQ.out]
                                            exact eqv_f fun h => by rw [h] at t8; simp at t8
                                          have HB := HRQ.out HQ2
                                          clear HQ2
                                          replace HB := Lib.hid HB
                                          refine wp_region_laterN ?_
                                          try simp only [List.append_eq, List.cons_append, List.nil_append]
                                          repeat (go_big_quiet_step (fail))
                                          refine wpQuiet_nil ?_
                                          rintro _ ⟨z, rfl⟩
                                          have hbd := below_step hbm hbc
                                          go_wp2_with fail
                                          go_ret
                                          exact ⟨by rw [HB.out]; rfl, below_step (below_step hbf3 hbc) z.h⟩
                                        | true =>
                                          cases t9 : (X.hnd == Y.hnd) with
                                          | false =>
                                            have u1 := bne_f t1
                                            have u2 := bne_f t2
                                            have u3 := bne_f t3
                                            have u4 := bne_f t4
                                            have u5 := bne_f t5
                                            have u8 := bne_f t8
                                            have u9 := bne_t t9
                                            have HQ2 : q = false := by
                                              rw [HQ.out]
                                              exact eqv_f fun h => by rw [h] at t9; simp at t9
                                            have HB := HRQ.out HQ2
                                            clear HQ2
                                            replace HB := Lib.hid HB
                                            refine wp_region_laterN ?_
                                            try simp only [List.append_eq, List.cons_append, List.nil_append]
                                            repeat (go_big_quiet_step (fail))
                                            refine wpQuiet_nil ?_
                                            rintro _ ⟨z, rfl⟩
                                            have hbd := below_step hbm hbc
                                            go_wp2_with fail
                                            go_ret
                                            exact ⟨by rw [HB.out]; rfl, below_step (below_step hbf3 hbc) z.h⟩
                                          | true =>
                                            have u1 := bne_f t1
                                            have u2 := bne_f t2
                                            have u3 := bne_f t3
                                            have u4 := bne_f t4
                                            have u5 := bne_f t5
                                            have u8 := bne_f t8
                                            have u9 := bne_f t9
                                            have HQ2 : Hid (q = qa) := by
                                              show q = qa
                                              rw [HQ.out]
                                              cases qa with
                                              | false => exact eqv_f fun h => eqv_ne.1 HQA.out.symm (by rw [h])
                                              | true =>
                                                have e8 := eqv_iff.1 HQA.out.symm
                                                have g0 : X.op = Y.op := eq_of_beq t1
                                                have g1 : X.dst = Y.dst := eq_of_beq t2
                                                have g2 : X.a = Y.a := eq_of_beq t3
                                                have g3 : X.b = Y.b := eq_of_beq t4
                                                have g4 : X.n = Y.n := eq_of_beq t5
                                                have g5 : X.cls = Y.cls := eqS_iff.1 t6
                                                have g6 : X.name = Y.name := eqS_iff.1 t7
                                                have g7 : X.jmp = Y.jmp := eq_of_beq t8
                                                have g8 : X.hnd = Y.hnd := eq_of_beq t9
                                                exact eqv_t (insExt g0 g1 g2 g3 g4 g5 g6 e8 g7 g8)
                                            cases qa with
                                            | false =>
                                              have HB := Lib.hid (HRQ.out HQ2.out)
                                              refine wp_region_laterN ?_
                                              try simp only [List.append_eq, List.cons_append, List.nil_append]
                                              repeat (go_big_quiet_step (first | (go_at_call 90; with_reducible exact Calls.later (HCS.out _ (by exact (by repeat (first | assumption | exact Below.refl _ _ | apply bw_alloc | apply bw_drew | apply bw_drewN | apply bw_later | apply bw_step))))) | fail))
                                              refine wpQuiet_nil ?_
                                              rintro _ ⟨z, rfl⟩
                                              have hbd := below_step hbm hbc
                                              go_wp2_with fail
                                              go_ret
                                              exact ⟨by rw [HB.out]; rfl, below_step (below_step hbf3 hbc) z.h⟩
                                            | true =>
                                              have HE2 := Lib.hid (HE3.out HQ2.out)
                                              refine wp_region_laterN ?_
                                              try simp only [List.append_eq, List.cons_append, List.nil_append]
                                              repeat (go_big_quiet_step (first | (go_at_call 90; with_reducible exact Calls.later (HCS.out _ (by exact (by repeat (first | assumption | exact Below.refl _ _ | apply bw_alloc | apply bw_drew | apply bw_drewN | apply bw_later | apply bw_step))))) | fail))
                                              refine wpQuiet_nil ?_
                                              rintro _ ⟨z, rfl⟩
                                              have hbd := below_step hbm hbc
                                              go_wp2_with fail
                                              go_roundw
                                              case rel => exact ⟨j + 1, by omega, by go_num, HE2, below_step hbd z.h⟩
                                              case measure => simp [intOf]; omega
                      · have HB : Hid (r = true) := by
                          show r = true
                          rw [HR.out]
                          have e6 := List.ext_getElem HL2.out (fun i h1 h2 => HEF.out i (by omega) h1 h2)
                          have e7 := HF.out
                          have n1 := HN1.out
                          have n2 := HN2.out
                          have n3 := HN3.out
                          have n4 := HN4.out
                          have n5 := HN5.out
                          exact eqv_t (funExt9 n1 n2 n3 n4 e7 n5 e6)
                        go_wp2_with fail
                        go_ret
                        exact ⟨by rw [HB.out]; rfl, hbf3⟩

set_option maxRecDepth 100000 in
set_option maxHeartbeats 8000000 in
theorem refUnit12_any (x y : Unt) (A0 A1 B0 B1 : Option Addr) (cA0 cA1 cB0 cB1 : Nat) (w : World) (hx0 : x.classes.length ≤ 8796093022208) (hx1 : LensOk x.classes) (hx2 : x.funcs.length ≤ 8796093022208) (hx3 : ∀ f ∈ x.funcs, FunOk f) (hsx0 : Sl Lay.cls w A0 x.classes) (hsx1 : Sl Lay.fun w A1 x.funcs) (hy0 : y.classes.length ≤ 8796093022208) (hy1 : LensOk y.classes) (hy2 : y.funcs.length ≤ 8796093022208) (hy3 : ∀ f ∈ y.funcs, FunOk f) (hsy0 : Sl Lay.cls w B0 y.classes) (hsy1 : Sl Lay.fun w B1 y.funcs) :
    Calls Tryz.prog 29 #[.agg #[.slice A0 x.classes.length cA0, .slice A1 x.funcs.length cA1, .int .i64 x.main], .agg #[.slice B0 y.classes.length cB0, .slice B1 y.funcs.length cB1, .int .i64 y.main]] w fun e w' => e = .returned (.bool (eqv x y)) ∧ Below w.heap.size w w' := by
  obtain ⟨r, HR⟩ : ∃ r, Hid (r = eqv x y) := ⟨_, Lib.hid rfl⟩
  rw [← HR.out]
  have HRF : Hid (¬ x = y → r = false) := fun hn => by rw [HR.out]; exact eqv_f hn
  have HCH := Lib.hid (fun W h => refHier_any x.classes y.classes A0 B0 cA0 cB0 W hx0 hy0 (Lib.hid hx1) (Lib.hid hy1) (hsx0.mono (show Below w.heap.size w W from h)) (hsy0.mono h))
  obtain ⟨q, HQ⟩ : ∃ q, Hid (q = eqv x.classes y.classes) := ⟨_, Lib.hid rfl⟩
  rw [← HQ.out] at HCH
  replace hx3 := Lib.hid hx3
  replace hy3 := Lib.hid hy3
  clear hx0 hx1 hy0 hy1
  go_enter Tryz.func29, Tryz.ntmps29
  go_upto_region 1 with fail
  generalize hW : World.alloc (World.alloc _ _) _ = W1 at *
  have hbW : Below w.heap.size w W1 := by rw [← hW]; exact (by repeat (first | assumption | exact Below.refl _ _ | apply bw_alloc | apply bw_drew | apply bw_drewN | apply bw_later | apply bw_step))
  have bx : Box W1 w.heap.size [.slice A0 x.classes.length cA0, .slice A1 x.funcs.length cA1, .int .i64 x.main] 27 := by rw [← hW]; exact (by repeat (first | (refine Box.at ?_; (simp; done)) | apply Box.drew | apply Box.alloc | assumption))
  have bY : Box W1 (w.heap.size + 1) [.slice B0 y.classes.length cB0, .slice B1 y.funcs.length cB1, .int .i64 y.main] 27 := by rw [← hW]; exact (by repeat (first | (refine Box.at ?_; (simp; done)) | apply Box.drew | apply Box.alloc | assumption))
  clear hW
  have xl := bx.lt
  have yl := bY.lt
  have x0 := bx.cell 0 rfl
  have y0 := bY.cell 0 rfl
  have x1 := bx.cell 1 rfl
  have y1 := bY.cell 1 rfl
  have x2 := bx.cell 2 rfl
  have y2 := bY.cell 2 rfl
  cases t1 : (x.main == y.main) with
  | false =>
    have u1 := bne_t t1
    have HB : Hid (r = false) := HRF.out fun h => by rw [h] at t1; simp at t1
    refine wp_region_laterN ?_
    try simp only [List.append_eq, List.cons_append, List.nil_append]
    repeat (go_big_quiet_step (fail))
    refine wpQuiet_nil ?_
    rintro _ ⟨z, rfl⟩
    have hbz := below_step hbW z.h
    have bx := bx.mono z.h
    have bY := bY.mono z.h
    go_wp2_with fail
    go_ret
    exact ⟨by rw [HB.out]; rfl, hbz⟩
  | true =>
  have u1 := bne_f t1
  cases t2 : ((x.funcs.length : Int) == (y.funcs.length : Int)) with
  | false =>
    have u2 := bne_t t2
    have HB : Hid (r = false) := HRF.out fun h => by rw [h] at t2; simp at t2
    refine wp_region_laterN ?_
    try simp only [List.append_eq, List.cons_append, List.nil_append]
    repeat (go_big_quiet_step (fail))
    refine wpQuiet_nil ?_
    rintro _ ⟨z, rfl⟩
    have hbz := below_step hbW z.h
    have bx := bx.mono z.h
    have bY := bY.mono z.h
    go_wp2_with fail
    go_ret
    exact ⟨by rw [HB.out]; rfl, hbz⟩
  | true =>
  have u2 := bne_f t2
  cases q with
  | false =>
    have HB : Hid (r = false) := HRF.out fun h => eqv_ne.1 HQ.out.symm (by rw [h])
    refine wp_region_laterN ?_
    try simp only [List.append_eq, List.cons_append, List.nil_append]
    repeat (go_big_quiet_step (first | (go_at_call 58; with_reducible exact Calls.later (HCH.out _ (by exact (by repeat (first | assumption | exact Below.refl _ _ | apply bw_alloc | apply bw_drew | apply bw_drewN | apply bw_later | apply bw_step))))) | fail))
    refine wpQuiet_nil ?_
    rintro _ ⟨z, rfl⟩
    have hbz := below_step hbW z.h
    have bx := bx.mono z.h
    have bY := bY.mono z.h
    go_wp2_with fail
    go_ret
    exact ⟨by rw [HB.out]; rfl, hbz⟩
  | true =>
    have HL2 : Hid (x.funcs.length = y.funcs.length) := by show _ = _; have := eq_of_beq t2; omega
    have HM : Hid (x.main = y.main) := eq_of_beq t1
    have e1 : x.funcs.length ≤ y.funcs.length := by rw [HL2.out]; exact Nat.le_refl _
    have e2 : y.funcs.length ≤ x.funcs.length := by rw [HL2.out]; exact Nat.le_refl _
    refine wp_region_laterN ?_
    try simp only [List.append_eq, List.cons_append, List.nil_append]
    repeat (go_big_quiet_step (first | (go_at_call 58; with_reducible exact Calls.later (HCH.out _ (by exact (by repeat (first | assumption | exact Below.refl _ _ | apply bw_alloc | apply bw_drew | apply bw_drewN | apply bw_later | apply bw_step))))) | fail))
    refine wpQuiet_nil ?_
    rintro _ ⟨z, rfl⟩
    have hbz := below_step hbW z.h
    have bx := bx.mono z.h
    have bY := bY.mono z.h
    clear x0 x1 x2 y0 y1 y2 xl yl t1 t2 u1 u2
    have x1 := bx.cell 1 rfl
    have y1 := bY.cell 1 rfl
    have xl := bx.lt
    have yl := bY.lt
    go_wp2_with fail
    go_loopw [5] (fun i wr => ∃ j : Nat, j ≤ x.funcs.length ∧ i = .int .i64 j ∧ Hid (∀ i (hi : i < j) (h1 : i < x.funcs.length) (h2 : i < y.funcs.length), x.funcs[i] = y.funcs[i]) ∧ Below z.W.heap.size z.W wr) (fun i _ => x.funcs.length - (intOf i).toNat)
    case atStart => exact ⟨0, Nat.zero_le _, rfl, fun i hi => by omega, Below.refl _ _⟩
    case round =>
      clear x1 y1 xl yl
      obtain ⟨j, hj, rfl, HEF, hbj⟩ := hrel
      have b8 := bx.mono hbj
      have b9 := bY.mono hbj
      have x1 := b8.cell 1 rfl
      have y1 := b9.cell 1 rfl
      have xl := b8.lt
      have yl := b9.lt
      have hbf := below_step hbz hbj
      by_cases hjl : j < x.funcs.length
      · have hjl2 : j < y.funcs.length := by omega
        obtain ⟨k1, o1', A4, c4, A6, c6, rfl, hb1', d0, d1, d2, d3, d4, d5, d6, hc4, hs4, hc6, hs6⟩ := (hsx1.mono hbf).fun_at hjl
        obtain ⟨k2, o2', B4, e4, B6, e6, rfl, hb2', f0, f1, f2, f3, f4, f5, f6, hd4, ht4, hd6, ht6⟩ := (hsy1.mono hbf).fun_at hjl2
        have HCF := Lib.hid (fun W h => refFunc_any x.funcs[j] y.funcs[j] A4 A6 B4 B6 c4 c6 e4 e6 W ⟨(hx3.out _ (List.getElem_mem hjl)).hvl, (hx3.out _ (List.getElem_mem hjl)).hcl, fun z hz => ((hx3.out _ (List.getElem_mem hjl)).hio z hz).2⟩ ⟨(hy3.out _ (List.getElem_mem hjl2)).hvl, (hy3.out _ (List.getElem_mem hjl2)).hcl, fun z hz => ((hy3.out _ (List.getElem_mem hjl2)).hio z hz).2⟩ (hs4.mono (show Below wr.heap.size wr W from h)) (ht4.mono h) (hs6.mono h) (ht6.mono h))
        obtain ⟨p, HP⟩ : ∃ q, Hid (q = eqv x.funcs[j] y.funcs[j]) := ⟨_, Lib.hid rfl⟩
        rw [← HP.out] at HCF
        cases p with
        | false =>
          have HB : Hid (r = false) := HRF.out fun h => eqv_ne.1 HP.out.symm (by simp only [h])
          go_wp2_with fail
          refine wp_region_later (by kernel_rfl) (by kernel_rfl) ?_
          repeat (go_big_quiet_step (first | (go_at_call 59; with_reducible exact Calls.later (HCF.out _ (by exact (by repeat (first | assumption | exact Below.refl _ _ | apply bw_alloc | apply bw_drew | apply bw_drewN | apply bw_later | apply bw_step))))) | fail))
          refine wpQuiet_nil ?_
          rintro _ ⟨v, rfl⟩
          go_wp2_with fail
          go_ret
          exact ⟨by rw [HB.out]; rfl, below_step hbf v.h⟩
        | true =>
          have HE2 : Hid (∀ i (hi : i < j + 1) (h1 : i < x.funcs.length) (h2 : i < y.funcs.length), x.funcs[i] = y.funcs[i]) := fun i hi h1 h2 => by
            by_cases e : i = j
            · subst e; exact eqv_iff.1 HP.out.symm
            · exact HEF.out i (by omega) h1 h2
          go_wp2_with fail
          refine wp_region_later (by kernel_rfl) (by kernel_rfl) ?_
          repeat (go_big_quiet_step (first | (go_at_call 59; with_reducible exact Calls.later (HCF.out _ (by exact (by repeat (first | assumption | exact Below.refl _ _ | apply bw_alloc | apply bw_drew | apply bw_drewN | apply bw_later | apply bw_step))))) | fail))
          refine wpQuiet_nil ?_
          rintro _ ⟨v, rfl⟩
          go_wp2_with fail
          go_roundw
          case rel => exact ⟨j + 1, by omega, by go_num, HE2, below_step hbj v.h⟩
          case measure => simp [intOf]; omega
      · have HB : Hid (r = true) := by
          show r = true
          rw [HR.out]
          have e6 := List.ext_getElem HL2.out (fun i h1 h2 => HEF.out i (by omega) h1 h2)
          have e7 := eqv_iff.1 HQ.out.symm
          exact eqv_t (untExt e7 e6 HM.out)
        go_wp2_with fail
        go_ret
        exact ⟨by rw [HB.out]; rfl, hbf⟩
set_option maxHeartbeats 4000000 in
theorem refSame_any (x y : Unt) (A0 A1 B0 B1 : Option Addr) (cA0 cA1 cB0 cB1 : Nat) (w : World) (hx0 : x.classes.length ≤ 8796093022208) (hx1 : LensOk x.classes) (hx2 : x.funcs.length ≤ 8796093022208) (hx3 : ∀ f ∈ x.funcs, FunOk f) (hsx0 : Sl Lay.cls w A0 x.classes) (hsx1 : Sl Lay.fun w A1 x.funcs) (hy0 : y.classes.length ≤ 8796093022208) (hy1 : LensOk y.classes) (hy2 : y.funcs.length ≤ 8796093022208) (hy3 : ∀ f ∈ y.funcs, FunOk f) (hsy0 : Sl Lay.cls w B0 y.classes) (hsy1 : Sl Lay.fun w B1 y.funcs) :
    Calls Tryz.prog 8 #[.agg #[.slice A0 x.classes.length cA0, .slice A1 x.funcs.length cA1, .int .i64 x.main], .agg #[.slice B0 y.classes.length cB0, .slice B1 y.funcs.length cB1, .int .i64 y.main]] w fun e w' => e = .returned (.bool (eqv x y)) ∧ Below w.heap.size w w' := by
  have HC := Lib.hid (fun W h => refUnit12_any x y A0 A1 B0 B1 cA0 cA1 cB0 cB1 W hx0 hx1 hx2 hx3 (hsx0.mono (show Below w.heap.size w W from h)) (hsx1.mono h) hy0 hy1 hy2 hy3 (hsy0.mono h) (hsy1.mono h))
  go_enter Tryz.func8, Tryz.ntmps8
  go_upto_region 1 with fail
  generalize hW : World.alloc (World.alloc _ _) _ = W1 at *
  have hbW : Below w.heap.size w W1 := by rw [← hW]; exact (by repeat (first | assumption | exact Below.refl _ _ | apply bw_alloc | apply bw_drew | apply bw_drewN | apply bw_later | apply bw_step))
  have bx : Box W1 w.heap.size [.slice A0 x.classes.length cA0, .slice A1 x.funcs.length cA1, .int .i64 x.main] 27 := by rw [← hW]; exact (by repeat (first | (refine Box.at ?_; (simp; done)) | apply Box.drew | apply Box.alloc | assumption))
  have bY : Box W1 (w.heap.size + 1) [.slice B0 y.classes.length cB0, .slice B1 y.funcs.length cB1, .int .i64 y.main] 27 := by rw [← hW]; exact (by repeat (first | (refine Box.at ?_; (simp; done)) | apply Box.drew | apply Box.alloc | assumption))
  clear hW
  have xl := bx.lt
  have yl := bY.lt
  have x0 := bx.cell 0 rfl
  have y0 := bY.cell 0 rfl
  have x1 := bx.cell 1 rfl
  have y1 := bY.cell 1 rfl
  have x2 := bx.cell 2 rfl
  have y2 := bY.cell 2 rfl
  go_wp2_with fail
  refine (HC.out _ hbW).mono ?_
  rintro e w1 ⟨rfl, hb1⟩
  go_wp2_with fail
  go_ret
  exact ⟨rfl, below_step hbW hb1⟩
end Go.Proofs.YticpeombillmeaaGreatDoor
