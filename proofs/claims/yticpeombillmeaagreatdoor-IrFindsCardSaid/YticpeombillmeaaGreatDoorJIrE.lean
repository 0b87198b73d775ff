/-
  Chapter 13: instrOf at words whose first is a number. (Printed by wip/gen/irE.py.)
-/
import Derived.Test.YticpeombillmeaaGreatDoorJIc
namespace Go.Proofs.YticpeombillmeaaGreatDoor
open Go.RowKit
set_option linter.unusedVariables false

theorem intTyI : ElemTy Tryz.prog 44 3 1 8 (.int .i64 0) := ⟨Tryz.underlying44, by kernel_rfl, rfl, by omega⟩
theorem setL_step {x : Ins} {c : UInt8} {f : List UInt8} {w : ByteArray} {r : List ByteArray} : setL x (c :: f) (w :: r) = match setF x c w with
    | some y => setL y f r
    | none => none := rfl
theorem drop_at {α : Type} {l : List α} {q : Nat} (h : q < l.length) : l.drop q = l[q] :: l.drop (q + 1) := List.drop_eq_getElem_cons h
theorem formB_toL {j : Nat} (hj : j < formsB.length) : toL formsB[j] = (formL[j]?).getD [] := by
  have h3 : j < formL.length := hj
  rw [List.getElem?_eq_getElem h3]
  simp [formsB, toL]
set_option maxRecDepth 100000 in
set_option maxHeartbeats 2000000 in
theorem instrOf_num (ws : List ByteArray) (g : Nat) (W : World) (hg : Gl3 W) (hs : Sl Lay.str W (some ⟨g, 0, none⟩) ws) (hl : ws.length ≤ 1000000) (hz : ∀ x ∈ ws, x.size ≤ 2000000) (h2 : 2 ≤ ws.length) (h : Int) (hn0 : numI (wd ws 0) = some h) :
    Calls Tryz.prog 56 #[.slice (some ⟨g, 0, none⟩) ws.length ws.length] W fun e w' => RetIns w' (insP ws) e ∧ Below W.heap.size W w' := by
  obtain ⟨R, HR⟩ : ∃ R, Hid (R = insP ws) := ⟨_, Lib.hid rfl⟩
  rw [← HR.out]
  have h0 : 0 < ws.length := by omega
  obtain ⟨d0, hgl⟩ := wd_cell hs h0
  obtain ⟨d1, _⟩ := wd_cell hs (show 1 < ws.length by omega)
  have hz0 : (wd ws 0).size ≤ 2000000 := by rw [wd_at h0]; exact hz _ (List.getElem_mem h0)
  have HN0 := Lib.hid (fun W' h => number_any (wd ws 0) W' (hg.mono h) hz0)
  have h0i : (0 : Int) < ws.length := by omega
  have HRQ : Hid (R = insQ (wd ws 0) (wd ws 1) (ws.drop 2)) := by show _ = _; rw [HR.out, insP_two ws h2]
  have hdr := hs.dropI2 2
  rw [Nat.zero_add] at hdr
  have HDR := Lib.hid hdr
  have HPL : Hid ((ws.drop 2).length = ws.length - 2) := List.length_drop
  have HZR : Hid (∀ x ∈ ws.drop 2, x.size ≤ 2000000) := fun x hx => hz x (List.mem_of_mem_drop hx)
  have h1i : (1 : Int) < ws.length := by omega
  have h2i : ¬ (ws.length : Int) < 2 := by omega
  have h2j : (2 : Int) ≤ ws.length := by omega
  have hI := (numI_iff.1 hn0).1
  have HRQ2 : Hid (R = match opOf (wd ws 1) with
    | none => none
    | some k =>
      if (ws.drop 2).length < (letF k).length ∨ (manyF k = false ∧ (letF k).length < (ws.drop 2).length) then none else
      match setL { zIns with op := k, hnd := h } (letF k) (ws.drop 2) with
      | none => none
      | some x => match numsL ((ws.drop 2).drop (letF k).length) with
        | none => none
        | some l => some { x with args := l }) := by show _ = _; rw [HRQ.out]; unfold insQ; rw [hn0]; rfl
  rw [hn0] at HN0
  generalize wd ws 0 = w0 at *
  generalize wd ws 1 = w1s at *
  have HIX : Hid (∀ (i : Nat) (hi : i < namesB.length) (w : World), (Instr.index 95 (.agg #[.string namesB[0], .string namesB[1], .string namesB[2], .string namesB[3], .string namesB[4], .string namesB[5], .string namesB[6], .string namesB[7], .string namesB[8], .string namesB[9], .string namesB[10], .string namesB[11], .string namesB[12], .string namesB[13], .string namesB[14], .string namesB[15], .string namesB[16]]) (.int .i64 (i : Int))).run Tryz.prog w = .ok (.string namesB[i]) w) := fun i hi w => by
    have h5 : i < 17 := hi
    exact match i, h5, hi with
      | 0, _, _ => nmIdx _ _ _ _ _ _ _ _ _ _ _ _ _ _ _ _ _  w 0 (by decide)
      | 1, _, _ => nmIdx _ _ _ _ _ _ _ _ _ _ _ _ _ _ _ _ _  w 1 (by decide)
      | 2, _, _ => nmIdx _ _ _ _ _ _ _ _ _ _ _ _ _ _ _ _ _  w 2 (by decide)
      | 3, _, _ => nmIdx _ _ _ _ _ _ _ _ _ _ _ _ _ _ _ _ _  w 3 (by decide)
      | 4, _, _ => nmIdx _ _ _ _ _ _ _ _ _ _ _ _ _ _ _ _ _  w 4 (by decide)
      | 5, _, _ => nmIdx _ _ _ _ _ _ _ _ _ _ _ _ _ _ _ _ _  w 5 (by decide)
      | 6, _, _ => nmIdx _ _ _ _ _ _ _ _ _ _ _ _ _ _ _ _ _  w 6 (by decide)
      | 7, _, _ => nmIdx _ _ _ _ _ _ _ _ _ _ _ _ _ _ _ _ _  w 7 (by decide)
      | 8, _, _ => nmIdx _ _ _ _ _ _ _ _ _ _ _ _ _ _ _ _ _  w 8 (by decide)
      | 9, _, _ => nmIdx _ _ _ _ _ _ _ _ _ _ _ _ _ _ _ _ _  w 9 (by decide)
      | 10, _, _ => nmIdx _ _ _ _ _ _ _ _ _ _ _ _ _ _ _ _ _  w 10 (by decide)
      | 11, _, _ => nmIdx _ _ _ _ _ _ _ _ _ _ _ _ _ _ _ _ _  w 11 (by decide)
      | 12, _, _ => nmIdx _ _ _ _ _ _ _ _ _ _ _ _ _ _ _ _ _  w 12 (by decide)
      | 13, _, _ => nmIdx _ _ _ _ _ _ _ _ _ _ _ _ _ _ _ _ _  w 13 (by decide)
      | 14, _, _ => nmIdx _ _ _ _ _ _ _ _ _ _ _ _ _ _ _ _ _  w 14 (by decide)
      | 15, _, _ => nmIdx _ _ _ _ _ _ _ _ _ _ _ _ _ _ _ _ _  w 15 (by decide)
      | 16, _, _ => nmIdx _ _ _ _ _ _ _ _ _ _ _ _ _ _ _ _ _  w 16 (by decide)
      | n + 17, h, _ => absurd h (by omega)
  have bz := Box.new W [.int .i64 0, .int .i64 0, .int .i64 0, .int .i64 0, .int .i64 0, .string ⟨#[]⟩, .string ⟨#[]⟩, .slice none 0 0, .int .i64 0, .int .i64 0] 47
  have hbz : Below W.heap.size W (W.alloc (.cells #[.int .i64 0, .int .i64 0, .int .i64 0, .int .i64 0, .int .i64 0, .string ⟨#[]⟩, .string ⟨#[]⟩, .slice none 0 0, .int .i64 0, .int .i64 0] 47)) := (by repeat (first | assumption | exact Below.refl _ _ | apply bw_alloc | apply bw_drew | apply bw_drewN | apply bw_later | apply bw_step))
  clear HR hz h0 HRQ hdr hs hn0
  generalize hrest : ws.drop 2 = rest at *
  generalize hnn : ws.length = n at *
  clear hrest
  go_enter Tryz.func56, Tryz.ntmps56
  go_wp2_with fail
  refine (HN0.out _ hbz).mono ?_
  rintro e w1 ⟨⟨v0, rfl, hv0⟩, hb1⟩
  obtain rfl : h = v0 := hv0 h rfl
  have bx := bz.mono hb1
  have hbw := below_step hbz hb1
  clear HN0 bz hbz hb1 hv0
  have n0 := keptC (hg.nx 0 (by decide)) (cell_lt (hg.nx 0 (by decide))) hbw
  have n1 := keptC (hg.nx 1 (by decide)) (cell_lt (hg.nx 1 (by decide))) hbw
  have n2 := keptC (hg.nx 2 (by decide)) (cell_lt (hg.nx 2 (by decide))) hbw
  have n3 := keptC (hg.nx 3 (by decide)) (cell_lt (hg.nx 3 (by decide))) hbw
  have n4 := keptC (hg.nx 4 (by decide)) (cell_lt (hg.nx 4 (by decide))) hbw
  have n5 := keptC (hg.nx 5 (by decide)) (cell_lt (hg.nx 5 (by decide))) hbw
  have n6 := keptC (hg.nx 6 (by decide)) (cell_lt (hg.nx 6 (by decide))) hbw
  have n7 := keptC (hg.nx 7 (by decide)) (cell_lt (hg.nx 7 (by decide))) hbw
  have n8 := keptC (hg.nx 8 (by decide)) (cell_lt (hg.nx 8 (by decide))) hbw
  have n9 := keptC (hg.nx 9 (by decide)) (cell_lt (hg.nx 9 (by decide))) hbw
  have n10 := keptC (hg.nx 10 (by decide)) (cell_lt (hg.nx 10 (by decide))) hbw
  have n11 := keptC (hg.nx 11 (by decide)) (cell_lt (hg.nx 11 (by decide))) hbw
  have n12 := keptC (hg.nx 12 (by decide)) (cell_lt (hg.nx 12 (by decide))) hbw
  have n13 := keptC (hg.nx 13 (by decide)) (cell_lt (hg.nx 13 (by decide))) hbw
  have n14 := keptC (hg.nx 14 (by decide)) (cell_lt (hg.nx 14 (by decide))) hbw
  have n15 := keptC (hg.nx 15 (by decide)) (cell_lt (hg.nx 15 (by decide))) hbw
  have n16 := keptC (hg.nx 16 (by decide)) (cell_lt (hg.nx 16 (by decide))) hbw
  have nl := Nat.lt_of_lt_of_le (cell_lt (hg.nx 0 (by decide))) hbw.size
  go_upto_region 6 with fail
  generalize hW : World.alloc _ _ = W1 at *
  have hb1 : Below w1.heap.size w1 W1 := by rw [← hW]; exact (by repeat (first | assumption | exact Below.refl _ _ | apply bw_alloc | apply bw_drew | apply bw_drewN | apply bw_later | apply bw_step))
  have bi0 : Box W1 w1.heap.size (insC { zIns with op := -1, hnd := h } none 0) 47 := by rw [← hW]; exact (by repeat (first | (refine Box.at ?_; (simp; done)) | apply Box.drew | apply Box.alloc | assumption))
  have hgi : W.heap.size < w1.heap.size := bx.lt
  generalize w1.heap.size = gi at *
  have bx1 : Box W1 W.heap.size [.int .i64 0, .int .i64 0, .int .i64 0, .int .i64 0, .int .i64 0, .string ⟨#[]⟩, .string ⟨#[]⟩, .slice none 0 0, .int .i64 0, .int .i64 0] 47 := bx.below hgi hb1
  have hbw1 : Below W.heap.size W W1 := hbw.trans (hb1.mono (Nat.le_of_lt hgi))
  clear hW bx hbw hb1 n0 n1 n2 n3 n4 n5 n6 n7 n8 n9 n10 n11 n12 n13 n14 n15 n16 nl
  go_loopw [34] (fun i wr => ∃ (k : Nat) (op : Int), k ≤ 17 ∧ i = .int .i64 k ∧ Box wr gi (insC { zIns with op := op, hnd := h } none 0) 47 ∧ Box wr W.heap.size [.int .i64 0, .int .i64 0, .int .i64 0, .int .i64 0, .int .i64 0, .string ⟨#[]⟩, .string ⟨#[]⟩, .slice none 0 0, .int .i64 0, .int .i64 0] 47 ∧ Below W.heap.size W wr ∧ Hid ((op = -1 ∧ ∀ j (hj : j < namesB.length), j < k → (w1s.toList == namesB[j].toList) = false) ∨ ∃ (j : Nat) (hj : j < namesB.length), op = j ∧ (w1s.toList == namesB[j].toList) = true)) (fun i _ => 17 - (intOf i).toNat)
  case atStart => exact ⟨0, -1, Nat.zero_le _, rfl, bi0, bx1, hbw1, Or.inl ⟨rfl, fun j hj h => by omega⟩⟩
  case round =>
    clear bi0 bx1 hbw1
    obtain ⟨k, op, hk, rfl, bi, bx, hbw, HO⟩ := hrel
    by_cases h17 : k < 17
    · have hlt : k < namesB.length := h17
      have h17i : (k : Int) < 17 := by omega
      have hix := fun w => HIX.out k hlt w
      obtain ⟨y, HY⟩ : ∃ y, Hid (y = namesB[k]) := ⟨_, Lib.hid rfl⟩
      rw [← HY.out] at hix
      have d1' := keptC d1 hgl hbw
      have hgl' := Nat.lt_of_lt_of_le hgl hbw.size
      cases ht : (w1s.toList == y.toList) with
      | true =>
        have bi' := bi
        unfold insC at bi'
        have i0 := bi'.cell 0 rfl
        have il := bi.lt
        have iff_ := fun i => bi.free i
        have HB2 : Hid (Box (wr.setCell ⟨gi, 0, none⟩ (.int .i64 k)) gi (insC { zIns with op := k, hnd := h } none 0) 47) := bi.set 0 (.int .i64 k)
        have HX2 := Lib.hid (bx.setOther (p := ⟨gi, 0, none⟩) (show gi ≠ W.heap.size by omega) (.int .i64 k))
        have HW2 := Lib.hid (hbw.setCell (p := ⟨gi, 0, none⟩) (show W.heap.size ≤ gi by omega) (.int .i64 k))
        have HO2 : Hid (((k : Int) = -1 ∧ ∀ j (hj : j < namesB.length), j < k + 1 → (w1s.toList == namesB[j].toList) = false) ∨ ∃ (j : Nat) (hj : j < namesB.length), (k : Int) = j ∧ (w1s.toList == namesB[j].toList) = true) := Or.inr ⟨k, hlt, rfl, by rw [← HY.out]; exact ht⟩
        clear bi bi' bx hbw HO HY
        go_wp2_with fail
        go_roundw
        case rel => exact ⟨k + 1, k, by omega, by go_num, HB2.out, HX2.out, HW2.out, HO2⟩
        case measure => simp [intOf]; omega
      | false =>
        have HO2 : Hid ((op = -1 ∧ ∀ j (hj : j < namesB.length), j < k + 1 → (w1s.toList == namesB[j].toList) = false) ∨ ∃ (j : Nat) (hj : j < namesB.length), op = j ∧ (w1s.toList == namesB[j].toList) = true) := by
          rcases HO.out with ⟨h1, h3⟩ | h1
          · refine Or.inl ⟨h1, fun j hj hjk => ?_⟩
            rcases (show j < k ∨ j = k by omega) with h4 | rfl
            · exact h3 j hj h4
            · rw [← HY.out]; exact ht
          · exact Or.inr h1
        go_wp2_with fail
        go_roundw
        case rel => exact ⟨k + 1, op, by omega, by go_num, bi, bx, hbw, HO2⟩
        case measure => simp [intOf]; omega
    · obtain rfl : k = 17 := by omega
      rcases HO.out with ⟨rfl, hno⟩ | ⟨j, hj, rfl, hy⟩
      · have HS : Hid (R = none) := by
          show _ = _
          rw [HRQ2.out, show opOf w1s = none from find_none (fun j hj => hno j hj hj)]
        have bi' := bi
        unfold insC at bi'
        have i0 := bi'.cell 0 rfl
        have il := bi.lt
        clear HRQ2 hno HO bi bi' HIX
        have y0 := bx.cell 0 rfl
        have y1 := bx.cell 1 rfl
        have y2 := bx.cell 2 rfl
        have y3 := bx.cell 3 rfl
        have y4 := bx.cell 4 rfl
        have y5 := bx.cell 5 rfl
        have y6 := bx.cell 6 rfl
        have y7 := bx.cell 7 rfl
        have y8 := bx.cell 8 rfl
        have y9 := bx.cell 9 rfl
        have yf := fun i => bx.free i
        have yl := bx.lt
        go_wp2_with fail
        obtain ⟨bx9, hg9⟩ := bx.store10 (.int .i64 0) (.int .i64 0) (.int .i64 0) (.int .i64 0) (.int .i64 0) (.string ⟨#[]⟩) (.string ⟨#[]⟩) (.slice none 0 0) (.int .i64 0) (.int .i64 0)
        have hb9 := (hbw).grown hg9 (hbw).size (fun k hk => by injection hk with hk; omega)
        clear y0 y1 y2 y3 y4 y5 y6 y7 y8 y9 yf yl
        generalize World.setCell _ _ _ = wz at *
        have y0 := bx9.cell 0 rfl
        have y1 := bx9.cell 1 rfl
        have y2 := bx9.cell 2 rfl
        have y3 := bx9.cell 3 rfl
        have y4 := bx9.cell 4 rfl
        have y5 := bx9.cell 5 rfl
        have y6 := bx9.cell 6 rfl
        have y7 := bx9.cell 7 rfl
        have y8 := bx9.cell 8 rfl
        have y9 := bx9.cell 9 rfl
        refine bodyPost_ret (v := .tuple #[.agg #[.int .i64 0, .int .i64 0, .int .i64 0, .int .i64 0, .int .i64 0, .string ⟨#[]⟩, .string ⟨#[]⟩, .slice none 0 0, .int .i64 0, .int .i64 0], .bool false]) (by simp [results, Tryz.results56, go_sem, y0, y1, y2, y3, y4, y5, y6, y7, y8, y9]) rfl ⟨⟨zIns, none, 0, by rw [HS.out]; rfl, fun y hy => (by rw [HS.out] at hy; cases hy)⟩, hb9⟩
      · have hj17 : j < 17 := hj
        have hj17i : (j : Int) < 17 := by omega
        have hj0 : ¬ (j : Int) < 0 := by omega
        have HR3 : Hid (R = if rest.length < (letF j).length ∨ (manyF j = false ∧ (letF j).length < rest.length) then none else
            match setL { zIns with op := (j : Int), hnd := h } (letF j) rest with
            | none => none
            | some x => match numsL (rest.drop (letF j).length) with
              | none => none
              | some l => some { x with args := l }) := by
          show _ = _
          rw [HRQ2.out, show opOf w1s = some j from opOf_last hj hy]
        have hfj : j < formsB.length := hj
        have fk := keptC (hg.fx j hfj) (cell_lt (hg.fx j hfj)) hbw
        have fl := Nat.lt_of_lt_of_le (cell_lt (hg.fx j hfj)) hbw.size
        have HLT := Lib.hid (form_facts j hj17).1
        have hL5 : (letF j).length ≤ 5 := by
          have h1 := (form_len j hj17).1
          have h2 : (letF j).length ≤ ((formL[j]?).getD []).length := List.length_filter_le _ _
          omega
        have hrm : rest.length ≤ 1000000 := by have := HPL.out; omega
        have bi' := bi
        unfold insC at bi'
        have i0 := bi'.cell 0 rfl
        have il := bi.lt
        have HCS : Hid (∀ W', Calls Tryz.prog 87 #[.string formsB[j], .string ⟨#[42]⟩] W' fun e w' => e = .returned (.tuple #[.string (bsOf (letF j)), .bool (manyF j)]) ∧ W' = w') := fun W' => by
          refine (Tryz.strings_CutSuffix formsB[j] ⟨#[42]⟩ W' (by have := formB_len hfj; omega)).mono ?_
          rintro e w' ⟨rfl, rfl⟩
          have h1 := trimStar j hj17
          rw [← formB_toL hfj] at h1
          exact ⟨by rw [← h1.1, ← h1.2]; rfl, rfl⟩
        obtain ⟨x0, HX0⟩ : ∃ x0, Hid (x0 = ({ zIns with op := (j : Int), hnd := h } : Ins)) := ⟨_, Lib.hid rfl⟩
        have HXA : Hid (x0.args = []) := by show _ = _; rw [HX0.out]; rfl
        rw [← HX0.out] at HR3 bi
        generalize formsB[j] = FB at *
        generalize letF j = L at *
        generalize manyF j = many at *
        have HFS : Hid (toL (bsOf L) = L) := toL_bsOf L
        have hfs : (bsOf L).size = L.length := bsOf_size L
        have HFSL := Lib.hid hfs
        generalize bsOf L = FS at *
        clear HRQ2 HO HX0 hy hj hfj HIX bi'
        go_upto_region 13 with fail
        go_cut [0] (fun v wx => ∃ o, v = .slice (some ⟨g, o, none⟩) rest.length rest.length ∧ Hid (Sl Lay.str W (some ⟨g, o, none⟩) rest) ∧ wr = wx)
        case first =>
          by_cases h5 : n = 2
          · have hr0 : rest = [] := List.eq_nil_of_length_eq_zero (by rw [HPL.out, h5])
            subst h5
            subst hr0
            go_wp2_with fail
            go_meet
            exact ⟨0, rfl, Sl.nil, rfl⟩
          · obtain ⟨q, rfl⟩ : ∃ q, n = q + 3 := ⟨n - 3, by omega⟩
            have hrl : rest.length = q + 1 := by rw [HPL.out]; omega
            have HRL := Lib.hid hrl
            clear hrl
            go_wp2_with fail
            go_meet
            exact ⟨2, by rw [HRL.out], HDR.out, rfl⟩
        case rest =>
        obtain ⟨o, rfl, HSR, rfl⟩ := hcut
        clear HDR HPL hl h2 h0i h1i h2i h2j
        go_wp2_with fail
        refine (HCS.out _).mono ?_
        rintro e w2 ⟨rfl, rfl⟩
        by_cases hbad : rest.length < L.length ∨ (many = false ∧ L.length < rest.length)
        · have HS : Hid (R = none) := by show _ = _; rw [HR3.out, if_pos hbad]
          rcases Classical.em (rest.length < L.length) with hb1 | hb1
          · have t1 : (rest.length : Int) < FS.size := by omega
            clear hbad hb1 HR3 bi hfs HFSL
            have y0 := bx.cell 0 rfl
            have y1 := bx.cell 1 rfl
            have y2 := bx.cell 2 rfl
            have y3 := bx.cell 3 rfl
            have y4 := bx.cell 4 rfl
            have y5 := bx.cell 5 rfl
            have y6 := bx.cell 6 rfl
            have y7 := bx.cell 7 rfl
            have y8 := bx.cell 8 rfl
            have y9 := bx.cell 9 rfl
            have yf := fun i => bx.free i
            have yl := bx.lt
            go_wp2_with fail
            obtain ⟨bx9, hg9⟩ := bx.store10 (.int .i64 0) (.int .i64 0) (.int .i64 0) (.int .i64 0) (.int .i64 0) (.string ⟨#[]⟩) (.string ⟨#[]⟩) (.slice none 0 0) (.int .i64 0) (.int .i64 0)
            have hb9 := (hbw).grown hg9 (hbw).size (fun k hk => by injection hk with hk; omega)
            clear y0 y1 y2 y3 y4 y5 y6 y7 y8 y9 yf yl
            generalize World.setCell _ _ _ = wz at *
            have y0 := bx9.cell 0 rfl
            have y1 := bx9.cell 1 rfl
            have y2 := bx9.cell 2 rfl
            have y3 := bx9.cell 3 rfl
            have y4 := bx9.cell 4 rfl
            have y5 := bx9.cell 5 rfl
            have y6 := bx9.cell 6 rfl
            have y7 := bx9.cell 7 rfl
            have y8 := bx9.cell 8 rfl
            have y9 := bx9.cell 9 rfl
            refine bodyPost_ret (v := .tuple #[.agg #[.int .i64 0, .int .i64 0, .int .i64 0, .int .i64 0, .int .i64 0, .string ⟨#[]⟩, .string ⟨#[]⟩, .slice none 0 0, .int .i64 0, .int .i64 0], .bool false]) (by simp [results, Tryz.results56, go_sem, y0, y1, y2, y3, y4, y5, y6, y7, y8, y9]) rfl ⟨⟨zIns, none, 0, by rw [HS.out]; rfl, fun y hy => (by rw [HS.out] at hy; cases hy)⟩, hb9⟩
          · have t1 : ¬ (rest.length : Int) < FS.size := by omega
            have hb2 : many = false ∧ L.length < rest.length := by
              rcases hbad with h | h
              · exact absurd h hb1
              · exact h
            obtain ⟨rfl, hb2⟩ := hb2
            have t2 : (FS.size : Int) < rest.length := by omega
            clear hbad hb1 hb2 HR3 bi hfs HFSL
            have y0 := bx.cell 0 rfl
            have y1 := bx.cell 1 rfl
            have y2 := bx.cell 2 rfl
            have y3 := bx.cell 3 rfl
            have y4 := bx.cell 4 rfl
            have y5 := bx.cell 5 rfl
            have y6 := bx.cell 6 rfl
            have y7 := bx.cell 7 rfl
            have y8 := bx.cell 8 rfl
            have y9 := bx.cell 9 rfl
            have yf := fun i => bx.free i
            have yl := bx.lt
            go_wp2_with fail
            obtain ⟨bx9, hg9⟩ := bx.store10 (.int .i64 0) (.int .i64 0) (.int .i64 0) (.int .i64 0) (.int .i64 0) (.string ⟨#[]⟩) (.string ⟨#[]⟩) (.slice none 0 0) (.int .i64 0) (.int .i64 0)
            have hb9 := (hbw).grown hg9 (hbw).size (fun k hk => by injection hk with hk; omega)
            clear y0 y1 y2 y3 y4 y5 y6 y7 y8 y9 yf yl
            generalize World.setCell _ _ _ = wz at *
            have y0 := bx9.cell 0 rfl
            have y1 := bx9.cell 1 rfl
            have y2 := bx9.cell 2 rfl
            have y3 := bx9.cell 3 rfl
            have y4 := bx9.cell 4 rfl
            have y5 := bx9.cell 5 rfl
            have y6 := bx9.cell 6 rfl
            have y7 := bx9.cell 7 rfl
            have y8 := bx9.cell 8 rfl
            have y9 := bx9.cell 9 rfl
            refine bodyPost_ret (v := .tuple #[.agg #[.int .i64 0, .int .i64 0, .int .i64 0, .int .i64 0, .int .i64 0, .string ⟨#[]⟩, .string ⟨#[]⟩, .slice none 0 0, .int .i64 0, .int .i64 0], .bool false]) (by simp [results, Tryz.results56, go_sem, y0, y1, y2, y3, y4, y5, y6, y7, y8, y9]) rfl ⟨⟨zIns, none, 0, by rw [HS.out]; rfl, fun y hy => (by rw [HS.out] at hy; cases hy)⟩, hb9⟩
        have HR4 : Hid (R = match setL x0 L rest with
            | none => none
            | some x => match numsL (rest.drop L.length) with
              | none => none
              | some l => some { x with args := l }) := by show _ = _; rw [HR3.out, if_neg hbad]
        have hfm : L.length ≤ rest.length := by
          rcases Nat.lt_or_ge rest.length L.length with h | h
          · exact absurd (Or.inl h) hbad
          · exact h
        have t1 : ¬ rest.length < L.length := by omega
        have HM : Hid (many = false → ¬ L.length < rest.length) := fun hm h => hbad (Or.inr ⟨hm, h⟩)
        clear hbad HR3 HCS i0 il fk fl
        go_upto_region 15 with fail
        go_cut [75] (fun v wx => v = .bool false ∧ wr = wx)
        case first =>
          cases many with
          | true =>
            go_wp2_with fail
            go_meet
            exact ⟨rfl, rfl⟩
          | false =>
            have t2 := HM.out rfl
            go_wp2_with fail
            go_meet
            exact ⟨rfl, rfl⟩
        case rest =>
        obtain ⟨rfl, rfl⟩ := hcut
        clear HM t1
        have HR5 : Hid (R = match setL x0 (L.drop 0) (rest.drop 0) with
            | none => none
            | some x => match numsL (rest.drop L.length) with
              | none => none
              | some l => some { x with args := l }) := HR4
        clear HR4
        go_wp2_with fail
        obtain ⟨wo, hwo⟩ : ∃ wo : World, wo = wr := ⟨_, rfl⟩
        subst hwo
        go_loopw [79] (fun i wr => ∃ (q : Nat) (x : Ins), q ≤ L.length ∧ i = .int .i64 q ∧ Hid (x.args = []) ∧ Box wr gi (insC x none 0) 47 ∧ Box wr W.heap.size [.int .i64 0, .int .i64 0, .int .i64 0, .int .i64 0, .int .i64 0, .string ⟨#[]⟩, .string ⟨#[]⟩, .slice none 0 0, .int .i64 0, .int .i64 0] 47 ∧ Below W.heap.size W wr ∧ Hid (R = match setL x (L.drop q) (rest.drop q) with
            | none => none
            | some x => match numsL (rest.drop L.length) with
              | none => none
              | some l => some { x with args := l })) (fun i _ => L.length - (intOf i).toNat)
        case atStart => exact ⟨0, x0, Nat.zero_le _, rfl, HXA, bi, bx, hbw, HR5⟩
        case round =>
          clear HXA bi bx hbw HR5
          obtain ⟨q, x, hq, rfl, HXA, bi, bx, hbw, HR⟩ := hrel
          by_cases hql : q < L.length
          · have hqf : q < FS.size := by omega
            have hqi : (q : Int) < FS.size := by omega
            have hqr : q < rest.length := by omega
            have hqri : (q : Int) < rest.length := by omega
            have hqn : ¬ (q : Int) < 0 := by omega
            obtain ⟨bq, oq, eq, hbq, dq⟩ := (HSR.out.mono hbw).str_at hqr
            injection eq with eq
            injection eq with e1 e2
            subst e1 e2
            have hch : FS[q] = L[q] := by
              have h1 := toL_at hqf
              rw [HFS.out, List.getElem?_eq_getElem hql] at h1
              injection h1 with h1
              exact h1.symm
            have HRS : Hid (R = match (match setF x FS[q] rest[q] with
                | some y => setL y (L.drop (q + 1)) (rest.drop (q + 1))
                | none => none) with
              | none => none
              | some x => match numsL (rest.drop L.length) with
                | none => none
                | some l => some { x with args := l }) := by
              show _ = _
              rw [HR.out, drop_at hql, drop_at hqr, setL_step, hch]
            have hltr : Ltr FS[q] := by rw [hch]; exact HLT.out _ (List.getElem_mem hql)
            have hwz := HZR.out _ (List.getElem_mem hqr)
            have HSF := Lib.hid (fun (W' : World) (hb : Below wr.heap.size wr W') => setField_any (A := none) (c := 0) FS[q] rest[q] (hg.mono (below_step hbw hb)) hwz (bi.mono hb) hltr)
            have HSK : Hid (∀ z, setF x FS[q] rest[q] = some z → z.args = []) := fun z hz => by rw [(setF_keep hltr hz).2.2]; exact HXA.out
            generalize setF x FS[q] rest[q] = SF at *
            have hcb := FS[q].toNat_lt
            clear HR hch hltr hwz
            go_upto_region 20 with fail
            refine wp_region_RW 7 (by kernel_rfl) (by kernel_rfl) ?_
            refine RW.chunk (f := 0) [0, 1, 2, 3, 4, 5, 6] (by kernel_rfl) ?_
            ((simp only [pickOps, List.filterMap, List.getElem?_toArray, List.getElem?_cons_zero, List.getElem?_cons_succ]); (repeat (go_big_quiet_step (fail))); refine wpQuiet_nil ?_)
            (refine RW.tail (by kernel_rfl) ?_; (simp only [List.drop_succ_cons, List.drop_zero]))
            go_wp2_with fail
            refine (HSF.out _ (Below.refl _ _).drew).mono ?_
            rintro e w3 ⟨rfl, hs1, hs2, hs3, hs4⟩
            have hgz : gi < wr.heap.size := bi.lt
            have hb3 : Below W.heap.size W w3 := hbw.drew.trans (hs3 W.heap.size (by omega) hbw.size)
            have bx3 : Box w3 W.heap.size [.int .i64 0, .int .i64 0, .int .i64 0, .int .i64 0, .int .i64 0, .string ⟨#[]⟩, .string ⟨#[]⟩, .slice none 0 0, .int .i64 0, .int .i64 0] 47 := Box.below (w := wr.drew) bx (Nat.lt_succ_self _) (hs3 (W.heap.size + 1) (by omega) bx.lt)
            cases SF with
            | none =>
              have HS : Hid (R = none) := HRS
              clear HSF HSK HRS bi bx hbw hs1 hs2 hs3 hs4 dq hbq
              have y0 := bx3.cell 0 rfl
              have y1 := bx3.cell 1 rfl
              have y2 := bx3.cell 2 rfl
              have y3 := bx3.cell 3 rfl
              have y4 := bx3.cell 4 rfl
              have y5 := bx3.cell 5 rfl
              have y6 := bx3.cell 6 rfl
              have y7 := bx3.cell 7 rfl
              have y8 := bx3.cell 8 rfl
              have y9 := bx3.cell 9 rfl
              have yf := fun i => bx3.free i
              have yl := bx3.lt
              go_wp2_with fail
              obtain ⟨bx9, hg9⟩ := bx3.store10 (.int .i64 0) (.int .i64 0) (.int .i64 0) (.int .i64 0) (.int .i64 0) (.string ⟨#[]⟩) (.string ⟨#[]⟩) (.slice none 0 0) (.int .i64 0) (.int .i64 0)
              have hb9 := (hb3).grown hg9 (hb3).size (fun k hk => by injection hk with hk; omega)
              clear y0 y1 y2 y3 y4 y5 y6 y7 y8 y9 yf yl
              generalize World.setCell _ _ _ = wz at *
              have y0 := bx9.cell 0 rfl
              have y1 := bx9.cell 1 rfl
              have y2 := bx9.cell 2 rfl
              have y3 := bx9.cell 3 rfl
              have y4 := bx9.cell 4 rfl
              have y5 := bx9.cell 5 rfl
              have y6 := bx9.cell 6 rfl
              have y7 := bx9.cell 7 rfl
              have y8 := bx9.cell 8 rfl
              have y9 := bx9.cell 9 rfl
              refine bodyPost_ret (v := .tuple #[.agg #[.int .i64 0, .int .i64 0, .int .i64 0, .int .i64 0, .int .i64 0, .string ⟨#[]⟩, .string ⟨#[]⟩, .slice none 0 0, .int .i64 0, .int .i64 0], .bool false]) (by simp [results, Tryz.results56, go_sem, y0, y1, y2, y3, y4, y5, y6, y7, y8, y9]) rfl ⟨⟨zIns, none, 0, by rw [HS.out]; rfl, fun y hy => (by rw [HS.out] at hy; cases hy)⟩, hb9⟩
            | some z =>
              have bi3 := hs1 z rfl
              have HXZ := Lib.hid (HSK.out z rfl)
              have HRZ : Hid (R = match setL z (L.drop (q + 1)) (rest.drop (q + 1)) with
                | none => none
                | some x => match numsL (rest.drop L.length) with
                  | none => none
                  | some l => some { x with args := l }) := HRS
              clear HSF HSK HRS bi bx hbw hs1 hs2 hs3 hs4 dq hbq
              go_wp2_with fail
              go_roundw
              case rel => exact ⟨q + 1, z, by omega, by go_num, HXZ, bi3, bx3, hb3, HRZ⟩
              case measure => simp [intOf]; omega
          · obtain rfl : q = L.length := by omega
            obtain ⟨r2, HRR⟩ : ∃ r2, Hid (r2 = rest.drop L.length) := ⟨_, Lib.hid rfl⟩
            have HR6 : Hid (R = match numsL r2 with
              | none => none
              | some l => some { x with args := l }) := by
              show _ = _
              rw [HR.out, List.drop_length, HRR.out]
              rfl
            have HD2 : Hid (Sl Lay.str W (some ⟨g, o + L.length, none⟩) r2) := by rw [HRR.out]; exact HSR.out.dropI2 L.length
            have HZ2 : Hid (∀ y ∈ r2, y.size ≤ 2000000) := fun y hy => HZR.out y (List.mem_of_mem_drop (by rw [← HRR.out]; exact hy))
            have HL2 : Hid (r2.length = rest.length - L.length) := by show _ = _; rw [HRR.out, List.length_drop]
            have hr2m : r2.length ≤ 1000000 := by have := HL2.out; omega
            clear HR HRR HZR HLT HFS hfs
            go_upto_region 23 with fail
            go_cut [96, 97, 98] (fun v n i wx => ∃ o2, v = .slice (some ⟨g, o2, none⟩) r2.length r2.length ∧ n = .int .i64 r2.length ∧ i = .int .i64 0 ∧ Hid (Sl Lay.str W (some ⟨g, o2, none⟩) r2) ∧ wr = wx)
            case first =>
              have hfs := HFSL.out
              generalize hff : L.length = f at *
              generalize hmm : rest.length = m at *
              clear hff hmm hbw bx bi
              by_cases hm : m = f
              · subst hm
                have hr0 : r2 = [] := List.eq_nil_of_length_eq_zero (by rw [HL2.out]; omega)
                subst hr0
                go_wp2_with fail
                go_meet
                exact ⟨o, rfl, rfl, rfl, Sl.nil, rfl⟩
              · obtain ⟨k, rfl⟩ : ∃ k, m = f + (k + 1) := ⟨m - f - 1, by omega⟩
                have HLK : Hid (r2.length = k + 1) := by show _ = _; rw [HL2.out]; omega
                have e1 : f + (k + 1) - f = k + 1 := by omega
                have e2 : ¬ (f + (k + 1)) < f := by omega
                have e3 : (f : Int) ≤ ((f + (k + 1) : Nat) : Int) := by omega
                have e4 : ¬ (f + (k + 1) ≤ f) := by omega
                go_wp2_with fail
                go_meet
                exact ⟨o + f, by rw [HLK.out], by rw [HLK.out]; rfl, rfl, HD2.out, rfl⟩
            case rest =>
            obtain ⟨o2, rfl, rfl, rfl, HS2, rfl⟩ := hcut
            clear HD2 HL2 HSR HFSL hfm hq hql
            have HR7 : Hid (R = ((numsL (r2.drop 0)).map (fun t => ([] : List Int) ++ t)).map (fun l => ({ x with args := l } : Ins))) := by
              show _ = _
              rw [HR6.out, List.drop_zero]
              cases numsL r2 <;> rfl
            have HXE : Hid (insC x none 0 = insC { x with args := [] } none 0) := by show _ = _; rw [← HXA.out]
            have bi7 : Box wr gi (insC { x with args := [] } none 0) 47 := by rw [← HXE.out]; exact bi
            have ho7 : Own cellsInt 1 W.heap.size 3 wr (.slice none 0 0) [] := Own.nil
            have bx7 := bx
            have hbw7 := hbw
            clear HR6 HXE bi bx hbw
            go_wp2_with fail
            obtain ⟨wp, hwp⟩ : ∃ wp : World, wp = wr := ⟨_, rfl⟩
            subst hwp
            go_loopw [98] (fun i wr => ∃ (q : Nat) (l : List Int) (A : Option Addr) (c : Nat), q ≤ r2.length ∧ Hid (l.length = q) ∧ i = .int .i64 q ∧ Box wr gi (insC { x with args := l } A c) 47 ∧ Own cellsInt 1 W.heap.size 3 wr (.slice A l.length c) l ∧ Box wr W.heap.size [.int .i64 0, .int .i64 0, .int .i64 0, .int .i64 0, .int .i64 0, .string ⟨#[]⟩, .string ⟨#[]⟩, .slice none 0 0, .int .i64 0, .int .i64 0] 47 ∧ Below W.heap.size W wr ∧ Hid (R = ((numsL (r2.drop q)).map (fun t => l ++ t)).map (fun l => ({ x with args := l } : Ins)))) (fun i _ => r2.length - (intOf i).toNat)
            case atStart => exact ⟨0, [], none, 0, Nat.zero_le _, Lib.hid rfl, rfl, bi7, ho7, bx7, hbw7, HR7⟩
            case round =>
              clear bi7 ho7 bx7 hbw7 HR7
              obtain ⟨q, l, A, c, hq, HLQ, rfl, bi, ho, bx, hbw, HR⟩ := hrel
              have hlm : l.length ≤ 1000000 := by have := HLQ.out; omega
              by_cases hql : q < r2.length
              · have hqi : (q : Int) < r2.length := by omega
                obtain ⟨bq, oq, eq, hbq, dq⟩ := (HS2.out.mono hbw).str_at hql
                injection eq with eq
                injection eq with e1 e2
                subst e1 e2
                have hwz := HZ2.out _ (List.getElem_mem hql)
                have HNQ := Lib.hid (number_any r2[q] wr (hg.mono hbw) hwz)
                have HRD : Hid (numsL (r2.drop q) = match numI r2[q] with
                  | none => none
                  | some n => match numsL (r2.drop (q + 1)) with
                    | none => none
                    | some l => some (n :: l)) := by
                  show _ = _
                  rw [drop_at hql]
                  rfl
                generalize r2[q] = wq at *
                have bi' := bi
                unfold insC at bi'
                go_wp2_with fail
                refine HNQ.out.mono ?_
                rintro e w3 ⟨⟨n, rfl, hn⟩, hb3⟩
                have bx3 := bx.mono hb3
                have hbw3 := below_step hbw hb3
                have bi3 := bi'.mono hb3
                have ho3 := ho.mono hb3
                cases hnq : numI wq with
                | none =>
                  have HS : Hid (R = none) := by
                    show _ = _
                    rw [HR.out, HRD.out, hnq]
                    rfl
                  clear HNQ HRD HR hn hnq bi bi' bx hbw ho dq hbq
                  have y0 := bx3.cell 0 rfl
                  have y1 := bx3.cell 1 rfl
                  have y2 := bx3.cell 2 rfl
                  have y3 := bx3.cell 3 rfl
                  have y4 := bx3.cell 4 rfl
                  have y5 := bx3.cell 5 rfl
                  have y6 := bx3.cell 6 rfl
                  have y7 := bx3.cell 7 rfl
                  have y8 := bx3.cell 8 rfl
                  have y9 := bx3.cell 9 rfl
                  have yf := fun i => bx3.free i
                  have yl := bx3.lt
                  go_wp2_with fail
                  obtain ⟨bx9, hg9⟩ := bx3.store10 (.int .i64 0) (.int .i64 0) (.int .i64 0) (.int .i64 0) (.int .i64 0) (.string ⟨#[]⟩) (.string ⟨#[]⟩) (.slice none 0 0) (.int .i64 0) (.int .i64 0)
                  have hb9 := (hbw3).grown hg9 (hbw3).size (fun k hk => by injection hk with hk; omega)
                  clear y0 y1 y2 y3 y4 y5 y6 y7 y8 y9 yf yl
                  generalize World.setCell _ _ _ = wz at *
                  have y0 := bx9.cell 0 rfl
                  have y1 := bx9.cell 1 rfl
                  have y2 := bx9.cell 2 rfl
                  have y3 := bx9.cell 3 rfl
                  have y4 := bx9.cell 4 rfl
                  have y5 := bx9.cell 5 rfl
                  have y6 := bx9.cell 6 rfl
                  have y7 := bx9.cell 7 rfl
                  have y8 := bx9.cell 8 rfl
                  have y9 := bx9.cell 9 rfl
                  refine bodyPost_ret (v := .tuple #[.agg #[.int .i64 0, .int .i64 0, .int .i64 0, .int .i64 0, .int .i64 0, .string ⟨#[]⟩, .string ⟨#[]⟩, .slice none 0 0, .int .i64 0, .int .i64 0], .bool false]) (by simp [results, Tryz.results56, go_sem, y0, y1, y2, y3, y4, y5, y6, y7, y8, y9]) rfl ⟨⟨zIns, none, 0, by rw [HS.out]; rfl, fun y hy => (by rw [HS.out] at hy; cases hy)⟩, hb9⟩
                | some v =>
                  obtain rfl : v = n := hn v hnq
                  have HRN : Hid (R = ((numsL (r2.drop (q + 1))).map (fun t => (l ++ [v]) ++ t)).map (fun l => ({ x with args := l } : Ins))) := by
                    show _ = _
                    rw [HR.out, HRD.out, hnq]
                    cases numsL (r2.drop (q + 1)) with
                    | none => rfl
                    | some t => simp
                  clear HNQ HRD HR hn hnq bi bi' bx hbw ho dq hbq
                  have i7 := bi3.cell 7 rfl
                  have il := bi3.lt
                  have hza : Below w3.heap.size w3 (w3.alloc (.cells #[.int .i64 v] 3)) := bw_alloc (Below.refl _ _)
                  obtain ⟨v7, w7, hrun, hown7, hb7, hg7, hz7⟩ := run_push intTyI cellsInt_ok 44 (ho3.mono hza) v w3.heap.size 1 (cells_one_new _ _ _) (by unfold maxLen; omega) (by omega) (Nat.le_trans hbw3.size hza.size)
                  obtain ⟨A7, c7, e7⟩ := hown7.sliceOf
                  have hne := (ho3.mono hza).ne_box (bi3.mono hza) (by decide)
                  have bi7 := (bi3.mono hza).grown hg7 hne
                  have bx7 := (bx3.mono hza).grown hg7 ((ho3.mono hza).ne_box (bx3.mono hza) (by decide))
                  replace e7 : v7 = .slice A7 (l.length + 1) c7 := by rw [e7, List.length_append]; rfl
                  subst e7
                  have j7 := bi7.cell 7 rfl
                  have jl := bi7.lt
                  have jf := fun i => bi7.free i
                  have HBI : Hid (Box (w7.setCell ⟨gi, 7, none⟩ (.slice A7 (l.length + 1) c7)) gi (insC { x with args := l ++ [v] } A7 c7) 47) := by
                    have h := bi7.set 7 (.slice A7 (l.length + 1) c7)
                    show Box _ _ _ _
                    unfold insC
                    rw [List.length_append]
                    exact h
                  have HOW : Hid (Own cellsInt 1 W.heap.size 3 (w7.setCell ⟨gi, 7, none⟩ (.slice A7 (l.length + 1) c7)) (.slice A7 (l ++ [v]).length c7) (l ++ [v])) := by
                    have h := hown7.kept_box bi7 (by decide) (grown_set w7 gi 7 (.slice A7 (l.length + 1) c7))
                    show Own _ _ _ _ _ _ _
                    rw [List.length_append]
                    exact h
                  have HBX := Lib.hid (bx7.setOther (p := ⟨gi, 7, none⟩) (show gi ≠ W.heap.size by omega) (.slice A7 (l.length + 1) c7))
                  have hbz : Below W.heap.size w3 w7 := (hza.mono hbw3.size).trans hb7
                  have HBW := Lib.hid ((hbw3.trans hbz).setCell (p := ⟨gi, 7, none⟩) (show W.heap.size ≤ gi by omega) (.slice A7 (l.length + 1) c7))
                  clear bi3 bx3 hbw3 ho3 hza hown7 hb7 hg7 hz7 hne bi7 bx7 hbz
                  go_wp2_with (at_builtin; refine wpList_appendRun rfl (.tmp 111) (.tmp 113) 44 rfl rfl rfl hrun ?_)
                  go_roundw
                  case rel => exact ⟨q + 1, l ++ [v], A7, c7, by omega, Lib.hid (by rw [List.length_append, HLQ.out]; rfl), by go_num, HBI.out, HOW.out, HBX.out, HBW.out, HRN⟩
                  case measure => simp [intOf]; omega
              · obtain rfl : q = r2.length := by omega
                have HS : Hid (R = some { x with args := l }) := by
                  show _ = _
                  rw [HR.out, List.drop_length]
                  show some { x with args := l ++ [] } = _
                  rw [List.append_nil]
                have bi' := bi
                unfold insC at bi'
                have z0 := bi'.cell 0 rfl
                have z1 := bi'.cell 1 rfl
                have z2 := bi'.cell 2 rfl
                have z3 := bi'.cell 3 rfl
                have z4 := bi'.cell 4 rfl
                have z5 := bi'.cell 5 rfl
                have z6 := bi'.cell 6 rfl
                have z7 := bi'.cell 7 rfl
                have z8 := bi'.cell 8 rfl
                have z9 := bi'.cell 9 rfl
                have zf := fun i => bi'.free i
                have zl := bi'.lt
                have y0 := bx.cell 0 rfl
                have y1 := bx.cell 1 rfl
                have y2 := bx.cell 2 rfl
                have y3 := bx.cell 3 rfl
                have y4 := bx.cell 4 rfl
                have y5 := bx.cell 5 rfl
                have y6 := bx.cell 6 rfl
                have y7 := bx.cell 7 rfl
                have y8 := bx.cell 8 rfl
                have y9 := bx.cell 9 rfl
                have yf := fun i => bx.free i
                have yl := bx.lt
                clear HR bi bi' HS2 HZ2
                obtain ⟨bx9, hg9⟩ := bx.store10 (.int .i64 x.op) (.int .i64 x.dst) (.int .i64 x.a) (.int .i64 x.b) (.int .i64 x.n) (.string x.cls) (.string x.name) (.slice A l.length c) (.int .i64 x.jmp) (.int .i64 x.hnd)
                have hb9 := hbw.grown hg9 hbw.size (fun k hk => by injection hk with hk; omega)
                have ho9 := ho.kept_box bx (by decide) hg9
                go_wp2_with fail
                clear y0 y1 y2 y3 y4 y5 y6 y7 y8 y9 yf yl z0 z1 z2 z3 z4 z5 z6 z7 z8 z9 zf zl
                generalize World.setCell _ _ _ = wz at *
                have y0 := bx9.cell 0 rfl
                have y1 := bx9.cell 1 rfl
                have y2 := bx9.cell 2 rfl
                have y3 := bx9.cell 3 rfl
                have y4 := bx9.cell 4 rfl
                have y5 := bx9.cell 5 rfl
                have y6 := bx9.cell 6 rfl
                have y7 := bx9.cell 7 rfl
                have y8 := bx9.cell 8 rfl
                have y9 := bx9.cell 9 rfl
                refine bodyPost_ret (v := .tuple #[.agg #[.int .i64 x.op, .int .i64 x.dst, .int .i64 x.a, .int .i64 x.b, .int .i64 x.n, .string x.cls, .string x.name, .slice A l.length c, .int .i64 x.jmp, .int .i64 x.hnd], .bool true]) (by simp [results, Tryz.results56, go_sem, y0, y1, y2, y3, y4, y5, y6, y7, y8, y9]) rfl ⟨⟨{ x with args := l }, A, c, by rw [HS.out]; rfl, fun y hy => by rw [HS.out] at hy; injection hy with hy; exact ⟨hy.symm, ho9.base0 (Nat.zero_le _)⟩⟩, hb9⟩
        
