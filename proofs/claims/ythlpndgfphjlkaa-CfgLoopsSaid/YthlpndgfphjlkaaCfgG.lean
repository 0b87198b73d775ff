/-
  Chapter 14: the walk of the reference's Put.
-/
import Derived.Test.YthlpndgfphjlkaaCfgF
namespace Go.Proofs.Ythlpndgfphjlkaa
open Go.RowKit
set_option linter.unusedVariables false

theorem below_undrewC {w W : World} (h : Below w.heap.size w W) : Below w.drew.heap.size w.drew W := ⟨h.os, h.tape, h.output, h.size, h.block⟩
theorem Sl.takeI {w : World} {A : Option Addr} {l : List Int} (h : Sl Lay.int w A l) (k : Nat) : Sl Lay.int w A (l.take k) := fun i x hx => h i x (by
  rw [List.getElem?_take] at hx
  split at hx
  · exact hx
  · cases hx)
theorem Sl.dropI {w : World} {b o : Nat} {l : List Int} (h : Sl Lay.int w (some ⟨b, o, none⟩) l) (k : Nat) : Sl Lay.int w (some ⟨b, o + k, none⟩) (l.drop k) := fun i x hx => by
  rw [List.getElem?_drop] at hx
  obtain ⟨b', o', vs, e, hlt, hr, hc⟩ := h (k + i) x hx
  injection e with e
  injection e with e1 e2
  subst e1 e2
  refine ⟨_, _, vs, rfl, hlt, hr, fun j v hj => ?_⟩
  have := hc j v hj
  rw [show Lay.int.size = 1 from rfl] at this ⊢
  rw [show o + k + i * 1 + j = o + (k + i) * 1 + j by omega]
  exact this
/-- A row of the call's own, or the very slice that came in. -/
def RetPut (w w' : World) (A : Option Addr) (c : Nat) (l r : List Int) (e : Ending) : Prop := (∃ v, e = .returned v ∧ Own cellsInt 1 w.heap.size 3 w' v r) ∨ (e = .returned (.slice A l.length c) ∧ r = l)
def RetSl (w' : World) (l : List Int) (e : Ending) : Prop := ∃ A c, e = .returned (.slice A l.length c) ∧ l.length ≤ c ∧ Sl Lay.int w' A l
set_option maxRecDepth 100000 in
set_option maxHeartbeats 2000000 in
theorem put_any (A : Option Addr) (c : Nat) (l : List Int) (x : Int) (w : World) (hl : l.length ≤ 100000) (hc : l.length ≤ c) (hs : Sl Lay.int w A l) :
    Calls Try.prog 26 #[.slice A l.length c, .int .i64 x] w fun e w' => RetPut w w' A c l (putL l x) e ∧ Below w.heap.size w w' := by
  go_enter Try.func26, Try.ntmps26
  go_wp2_with fail
  go_loop [5] (fun i => ∃ k : Nat, k ≤ l.length ∧ i = .int .i64 k ∧ Hid (∀ i (h : i < l.length), i < k → l[i] < x)) (fun i => l.length - (intOf i).toNat)
  case atStart => exact ⟨0, Nat.zero_le _, rfl, fun i h hi => by omega⟩
  case round =>
    obtain ⟨k, hk, rfl, HN⟩ := hrel
    by_cases hgo : ∃ h : k < l.length, l[k] < x
    · obtain ⟨hlt, hx⟩ := hgo
      obtain ⟨b, o, rfl, hb, d0⟩ := hs.int_at hlt
      have HE : Hid (∀ i (h : i < l.length), i < k + 1 → l[i] < x) := fun i h hi => by
        by_cases e : i = k
        · subst e; exact hx
        · exact HN.out i h (by omega)
      go_wp2_with fail
      go_round
      case rel => exact ⟨k + 1, by omega, by go_num, HE⟩
      case measure => simp [intOf]; omega
    by_cases hlt : k < l.length
    · have hx : ¬ l[k] < x := fun h => hgo ⟨hlt, h⟩
      obtain ⟨b, o, rfl, hb, d0⟩ := hs.int_at hlt
      by_cases he : l[k] = x
      · have HR : Hid (putL l x = l) := putL_same hlt HN.out he
        go_wp2_with fail
        go_ret
        exact ⟨Or.inr ⟨rfl, HR.out⟩, Below.refl _ _⟩
      · have he' : (l[k] == x) = false := by simpa using he
        have HR : Hid (putL l x = l.take k ++ [x] ++ l.drop k) := putL_new (by omega) HN.out (fun h => by omega)
        have htl : (l.take k).length = k := by rw [List.length_take]; omega
        have hst : Sl Lay.int w (some ⟨b, o, none⟩) (l.take k) := hs.takeI k
        have hsd : Sl Lay.int w (some ⟨b, o + k, none⟩) (l.drop k) := hs.dropI k
        go_upto_region 6 with fail
        refine wp_region_RZ 13 (by kernel_rfl) (by kernel_rfl) ?_
        refine RZ.chunk (f := 6) [1, 2, 3, 5, 8, 9, 10] (by kernel_rfl) ?_
        ((simp only [pickOps, List.filterMap, List.getElem?_toArray, List.getElem?_cons_zero, List.getElem?_cons_succ]); (repeat (go_big_quiet_step (fail))); refine wpQuiet_nil ?_)
        refine RZ.both 0 6 rfl rfl (by kernel_rfl) (by omega) (by omega) ?_ ?_
        · intro K hK
          go_wp2_with fail
          refine hK _ _ (bw_alloc (Below.refl _ _)) ?_
          clear hK
          generalize hW : World.drew (World.alloc _ _) = W2
          have hb2 : Below w.heap.size w W2 := by rw [← hW]; exact (by repeat (first | assumption | exact Below.refl _ _ | apply bw_alloc | apply bw_drew | apply bw_drewN | apply bw_later | apply bw_step))
          have hz2 : w.heap.size < W2.heap.size := by rw [← hW]; simp
          have ho2 : Own cellsInt 1 w.heap.size 3 W2 (.slice (some ⟨w.heap.size, 0, none⟩) 0 0) ([] : List Int) := by
            rw [← hW]
            exact (Own.lit w #[] [] (Nat.le_refl _) (by decide) rfl rfl).mono (bw_drew (Below.refl _ _))
          clear hW
          refine RZ.both 4 6 rfl rfl (by kernel_rfl) (by omega) (by omega) ?_ ?_
          · intro K hK
            obtain ⟨v4, w4, hrun4, ho4, hb4, hg4, hz4⟩ := run_pushAll (L := Lay.int) (c := c) intTy cellsInt_ok 38 ho2 (fun x vs h => h) rfl (hst.mono hb2) (by rw [htl]; simp [maxLen]; omega) (by rw [htl]; simp; omega) hb2.size
            rw [htl] at hrun4
            rw [List.nil_append] at ho4
            refine wpList_appendRunD 37 rfl rfl (.tmp 33) (.tmp 36) 38 rfl rfl rfl hrun4 ?_
            simp only [List.setIfInBounds_toArray, List.set_cons_succ, List.set_cons_zero]
            go_wp2_with fail
            have hbx4 : Below w.heap.size w w4 := hb2.trans hb4
            refine hK _ _ (below_undrewC hbx4) ?_
            clear hK
            refine RZ.single 6 rfl (by kernel_rfl) (by omega) ?_
            intro K hK
            go_wp2_with fail
            refine hK _ _ (below_undrewC (bw_alloc hbx4)) ?_
            clear hK
            have hxc := cells_one_new w4 (.int .i64 x) 3
            have hbx5 : Below w.heap.size w (w4.alloc (.cells #[.int .i64 x] 3)) := bw_alloc hbx4
            have ho5 := ho4.alloc (.cells #[.int .i64 x] 3)
            refine RZ.single 7 rfl (by kernel_rfl) (by omega) ?_
            intro K hK
            obtain ⟨v7, w7, hrun7, ho7, hb7, hg7, hz7⟩ := run_push intTy cellsInt_ok 38 ho5 x w4.heap.size 1 hxc (by rw [htl]; simp [maxLen]; omega) (by rw [htl]; omega) hbx5.size
            refine wpList_appendRunD 40 rfl rfl (.tmp 37) (.tmp 39) 38 rfl rfl rfl hrun7 ?_
            simp only [List.setIfInBounds_toArray, List.set_cons_succ, List.set_cons_zero]
            go_wp2_with fail
            have hbx7 : Below w.heap.size w w7 := hbx5.trans hb7
            refine hK _ _ (below_undrewC hbx7) ?_
            clear hK
            refine RZ.single 11 rfl (by kernel_rfl) (by omega) ?_
            intro K hK
            obtain ⟨v8, w8, hrun8, ho8, hb8, hg8, hz8⟩ := run_pushAll (L := Lay.int) (c := c - k) intTy cellsInt_ok 38 ho7 (fun x vs h => h) rfl (hsd.mono hbx7) (by rw [List.length_append, htl, List.length_drop]; simp [maxLen]; omega) (by rw [List.length_append, htl, List.length_drop]; simp; omega) hbx7.size
            rw [List.length_drop] at hrun8
            refine wpList_appendRunD 44 rfl rfl (.tmp 40) (.tmp 43) 38 rfl rfl rfl hrun8 ?_
            simp only [List.setIfInBounds_toArray, List.set_cons_succ, List.set_cons_zero]
            go_wp2_with fail
            have hbx8 : Below w.heap.size w w8 := hbx7.trans hb8
            refine hK _ _ (below_undrewC hbx8) ?_
            clear hK
            refine RZ.chunk (f := 0) [12] (by kernel_rfl) ?_
            ((simp only [pickOps, List.filterMap, List.getElem?_toArray, List.getElem?_cons_zero, List.getElem?_cons_succ]); (repeat (go_big_quiet_step (fail))); refine wpQuiet_nil ?_)
            (refine RZ.done (by kernel_rfl) (by kernel_rfl) ?_)
            go_wp2_with fail
            go_ret
            exact ⟨Or.inl ⟨_, rfl, by rw [HR.out]; exact ho8⟩, hbx8⟩
          · intro K hK
            go_wp2_with fail
            refine hK _ _ (below_undrewC (bw_alloc hb2)) ?_
            clear hK
            have hb3 : Below w.heap.size w (W2.alloc (.cells #[.int .i64 x] 3)) := bw_alloc hb2
            have bx3 := Box.new W2 [.int .i64 x] 3
            refine RZ.single 4 rfl (by kernel_rfl) (by omega) ?_
            intro K hK
            obtain ⟨v4, w4, hrun4, ho4, hb4, hg4, hz4⟩ := run_pushAll (L := Lay.int) (c := c) intTy cellsInt_ok 38 (ho2.alloc (.cells #[.int .i64 x] 3)) (fun x vs h => h) rfl (hst.mono hb3) (by rw [htl]; simp [maxLen]; omega) (by rw [htl]; simp; omega) hb3.size
            rw [htl] at hrun4
            rw [List.nil_append] at ho4
            refine wpList_appendRunD 37 rfl rfl (.tmp 33) (.tmp 36) 38 rfl rfl rfl hrun4 ?_
            simp only [List.setIfInBounds_toArray, List.set_cons_succ, List.set_cons_zero]
            go_wp2_with fail
            have hbx4 : Below w.heap.size w w4 := hb3.trans hb4
            refine hK _ _ (below_undrewC hbx4) ?_
            clear hK
            have bx4 := bx3.grown hg4 (by simp [Value.ownBlock]; omega)
            have hxc : ∀ j u, (cellsInt x)[j]? = some u → w4.cell? ⟨W2.heap.size, j, none⟩ = some u := fun j u hj => bx4.cell j hj
            refine RZ.single 7 rfl (by kernel_rfl) (by omega) ?_
            intro K hK
            obtain ⟨v7, w7, hrun7, ho7, hb7, hg7, hz7⟩ := run_push intTy cellsInt_ok 38 ho4 x W2.heap.size 1 hxc (by rw [htl]; simp [maxLen]; omega) (by rw [htl]; omega) hbx4.size
            refine wpList_appendRunD 40 rfl rfl (.tmp 37) (.tmp 39) 38 rfl rfl rfl hrun7 ?_
            simp only [List.setIfInBounds_toArray, List.set_cons_succ, List.set_cons_zero]
            go_wp2_with fail
            have hbx7 : Below w.heap.size w w7 := hbx4.trans hb7
            refine hK _ _ (below_undrewC hbx7) ?_
            clear hK
            refine RZ.single 11 rfl (by kernel_rfl) (by omega) ?_
            intro K hK
            obtain ⟨v8, w8, hrun8, ho8, hb8, hg8, hz8⟩ := run_pushAll (L := Lay.int) (c := c - k) intTy cellsInt_ok 38 ho7 (fun x vs h => h) rfl (hsd.mono hbx7) (by rw [List.length_append, htl, List.length_drop]; simp [maxLen]; omega) (by rw [List.length_append, htl, List.length_drop]; simp; omega) hbx7.size
            rw [List.length_drop] at hrun8
            refine wpList_appendRunD 44 rfl rfl (.tmp 40) (.tmp 43) 38 rfl rfl rfl hrun8 ?_
            simp only [List.setIfInBounds_toArray, List.set_cons_succ, List.set_cons_zero]
            go_wp2_with fail
            have hbx8 : Below w.heap.size w w8 := hbx7.trans hb8
            refine hK _ _ (below_undrewC hbx8) ?_
            clear hK
            refine RZ.chunk (f := 0) [12] (by kernel_rfl) ?_
            ((simp only [pickOps, List.filterMap, List.getElem?_toArray, List.getElem?_cons_zero, List.getElem?_cons_succ]); (repeat (go_big_quiet_step (fail))); refine wpQuiet_nil ?_)
            (refine RZ.done (by kernel_rfl) (by kernel_rfl) ?_)
            go_wp2_with fail
            go_ret
            exact ⟨Or.inl ⟨_, rfl, by rw [HR.out]; exact ho8⟩, hbx8⟩
        · intro K hK
          go_wp2_with fail
          refine hK _ _ (bw_alloc (Below.refl _ _)) ?_
          clear hK
          generalize hW : World.drew (World.alloc _ _) = W2
          have hb2 : Below w.heap.size w W2 := by rw [← hW]; exact (by repeat (first | assumption | exact Below.refl _ _ | apply bw_alloc | apply bw_drew | apply bw_drewN | apply bw_later | apply bw_step))
          have hz2 : w.heap.size < W2.heap.size := by rw [← hW]; simp
          have bx2 : Box W2 w.heap.size [.int .i64 x] 3 := by rw [← hW]; exact (Box.new _ _ _).drew
          clear hW
          refine RZ.single 0 rfl (by kernel_rfl) (by omega) ?_
          intro K hK
          go_wp2_with fail
          refine hK _ _ (below_undrewC (bw_alloc hb2)) ?_
          clear hK
          have hb3 : Below w.heap.size w (W2.alloc (.cells #[] 3)) := bw_alloc hb2
          have ho3 : Own cellsInt 1 w.heap.size 3 (W2.alloc (.cells #[] 3)) (.slice (some ⟨W2.heap.size, 0, none⟩) 0 0) ([] : List Int) := Own.lit W2 #[] [] hb2.size (by decide) rfl rfl
          refine RZ.single 4 rfl (by kernel_rfl) (by omega) ?_
          intro K hK
          obtain ⟨v4, w4, hrun4, ho4, hb4, hg4, hz4⟩ := run_pushAll (L := Lay.int) (c := c) intTy cellsInt_ok 38 ho3 (fun x vs h => h) rfl (hst.mono hb3) (by rw [htl]; simp [maxLen]; omega) (by rw [htl]; simp; omega) hb3.size
          rw [htl] at hrun4
          rw [List.nil_append] at ho4
          refine wpList_appendRunD 37 rfl rfl (.tmp 33) (.tmp 36) 38 rfl rfl rfl hrun4 ?_
          simp only [List.setIfInBounds_toArray, List.set_cons_succ, List.set_cons_zero]
          go_wp2_with fail
          have hbx4 : Below w.heap.size w w4 := hb3.trans hb4
          refine hK _ _ (below_undrewC hbx4) ?_
          clear hK
          have bx4 := (bx2.alloc (.cells #[] 3)).grown hg4 (by simp [Value.ownBlock]; omega)
          have hxc : ∀ j u, (cellsInt x)[j]? = some u → w4.cell? ⟨w.heap.size, j, none⟩ = some u := fun j u hj => bx4.cell j hj
          refine RZ.single 7 rfl (by kernel_rfl) (by omega) ?_
          intro K hK
          obtain ⟨v7, w7, hrun7, ho7, hb7, hg7, hz7⟩ := run_push intTy cellsInt_ok 38 ho4 x w.heap.size 1 hxc (by rw [htl]; simp [maxLen]; omega) (by rw [htl]; omega) hbx4.size
          refine wpList_appendRunD 40 rfl rfl (.tmp 37) (.tmp 39) 38 rfl rfl rfl hrun7 ?_
          simp only [List.setIfInBounds_toArray, List.set_cons_succ, List.set_cons_zero]
          go_wp2_with fail
          have hbx7 : Below w.heap.size w w7 := hbx4.trans hb7
          refine hK _ _ (below_undrewC hbx7) ?_
          clear hK
          refine RZ.single 11 rfl (by kernel_rfl) (by omega) ?_
          intro K hK
          obtain ⟨v8, w8, hrun8, ho8, hb8, hg8, hz8⟩ := run_pushAll (L := Lay.int) (c := c - k) intTy cellsInt_ok 38 ho7 (fun x vs h => h) rfl (hsd.mono hbx7) (by rw [List.length_append, htl, List.length_drop]; simp [maxLen]; omega) (by rw [List.length_append, htl, List.length_drop]; simp; omega) hbx7.size
          rw [List.length_drop] at hrun8
          refine wpList_appendRunD 44 rfl rfl (.tmp 40) (.tmp 43) 38 rfl rfl rfl hrun8 ?_
          simp only [List.setIfInBounds_toArray, List.set_cons_succ, List.set_cons_zero]
          go_wp2_with fail
          have hbx8 : Below w.heap.size w w8 := hbx7.trans hb8
          refine hK _ _ (below_undrewC hbx8) ?_
          clear hK
          refine RZ.chunk (f := 0) [12] (by kernel_rfl) ?_
          ((simp only [pickOps, List.filterMap, List.getElem?_toArray, List.getElem?_cons_zero, List.getElem?_cons_succ]); (repeat (go_big_quiet_step (fail))); refine wpQuiet_nil ?_)
          (refine RZ.done (by kernel_rfl) (by kernel_rfl) ?_)
          go_wp2_with fail
          go_ret
          exact ⟨Or.inl ⟨_, rfl, by rw [HR.out]; exact ho8⟩, hbx8⟩
    · obtain rfl : k = l.length := by omega
      have HR : Hid (putL l x = l.take l.length ++ [x] ++ []) := by
        have := putL_new (Nat.le_refl _) HN.out (fun h => by omega)
        rw [List.drop_length] at this
        exact this
      have htl : (l.take l.length).length = l.length := by rw [List.take_length]
      have hst : Sl Lay.int w A (l.take l.length) := hs.takeI _
      go_upto_region 6 with fail
      refine wp_region_RZ 13 (by kernel_rfl) (by kernel_rfl) ?_
      refine RZ.chunk (f := 6) [1, 2, 3, 5, 8, 9, 10] (by kernel_rfl) ?_
      ((simp only [pickOps, List.filterMap, List.getElem?_toArray, List.getElem?_cons_zero, List.getElem?_cons_succ]); (repeat (go_big_quiet_step (fail))); refine wpQuiet_nil ?_)
      generalize (if c = l.length then A else Option.map (fun x => x.add l.length) A) = A43
      refine RZ.both 0 6 rfl rfl (by kernel_rfl) (by omega) (by omega) ?_ ?_
      · intro K hK
        go_wp2_with fail
        refine hK _ _ (bw_alloc (Below.refl _ _)) ?_
        clear hK
        generalize hW : World.drew (World.alloc _ _) = W2
        have hb2 : Below w.heap.size w W2 := by rw [← hW]; exact (by repeat (first | assumption | exact Below.refl _ _ | apply bw_alloc | apply bw_drew | apply bw_drewN | apply bw_later | apply bw_step))
        have hz2 : w.heap.size < W2.heap.size := by rw [← hW]; simp
        have ho2 : Own cellsInt 1 w.heap.size 3 W2 (.slice (some ⟨w.heap.size, 0, none⟩) 0 0) ([] : List Int) := by
          rw [← hW]
          exact (Own.lit w #[] [] (Nat.le_refl _) (by decide) rfl rfl).mono (bw_drew (Below.refl _ _))
        clear hW
        refine RZ.both 4 6 rfl rfl (by kernel_rfl) (by omega) (by omega) ?_ ?_
        · intro K hK
          obtain ⟨v4, w4, hrun4, ho4, hb4, hg4, hz4⟩ := run_pushAll (L := Lay.int) (c := c) intTy cellsInt_ok 38 ho2 (fun x vs h => h) rfl (hst.mono hb2) (by rw [htl]; simp [maxLen]; omega) (by rw [htl]; simp; omega) hb2.size
          rw [htl] at hrun4
          rw [List.nil_append] at ho4
          refine wpList_appendRunD 37 rfl rfl (.tmp 33) (.tmp 36) 38 rfl rfl rfl hrun4 ?_
          simp only [List.setIfInBounds_toArray, List.set_cons_succ, List.set_cons_zero]
          go_wp2_with fail
          have hbx4 : Below w.heap.size w w4 := hb2.trans hb4
          refine hK _ _ (below_undrewC hbx4) ?_
          clear hK
          refine RZ.single 6 rfl (by kernel_rfl) (by omega) ?_
          intro K hK
          go_wp2_with fail
          refine hK _ _ (below_undrewC (bw_alloc hbx4)) ?_
          clear hK
          have hxc := cells_one_new w4 (.int .i64 x) 3
          have hbx5 : Below w.heap.size w (w4.alloc (.cells #[.int .i64 x] 3)) := bw_alloc hbx4
          have ho5 := ho4.alloc (.cells #[.int .i64 x] 3)
          refine RZ.single 7 rfl (by kernel_rfl) (by omega) ?_
          intro K hK
          obtain ⟨v7, w7, hrun7, ho7, hb7, hg7, hz7⟩ := run_push intTy cellsInt_ok 38 ho5 x w4.heap.size 1 hxc (by rw [htl]; simp [maxLen]; omega) (by rw [htl]; omega) hbx5.size
          refine wpList_appendRunD 40 rfl rfl (.tmp 37) (.tmp 39) 38 rfl rfl rfl hrun7 ?_
          simp only [List.setIfInBounds_toArray, List.set_cons_succ, List.set_cons_zero]
          go_wp2_with fail
          have hbx7 : Below w.heap.size w w7 := hbx5.trans hb7
          refine hK _ _ (below_undrewC hbx7) ?_
          clear hK
          refine RZ.single 11 rfl (by kernel_rfl) (by omega) ?_
          intro K hK
          obtain ⟨v8, w8, hrun8, ho8, hb8, hg8, hz8⟩ := run_pushAll (L := Lay.int) (c := c - l.length) intTy cellsInt_ok 38 ho7 (fun x vs h => h) rfl (Sl.nil : Sl Lay.int w7 A43 []) (by rw [List.length_append, htl]; simp [maxLen]; omega) (by rw [List.length_append, htl]; simp; omega) hbx7.size
          rw [List.length_nil] at hrun8
          refine wpList_appendRunD 44 rfl rfl (.tmp 40) (.tmp 43) 38 rfl rfl rfl hrun8 ?_
          simp only [List.setIfInBounds_toArray, List.set_cons_succ, List.set_cons_zero]
          go_wp2_with fail
          have hbx8 : Below w.heap.size w w8 := hbx7.trans hb8
          refine hK _ _ (below_undrewC hbx8) ?_
          clear hK
          refine RZ.chunk (f := 0) [12] (by kernel_rfl) ?_
          ((simp only [pickOps, List.filterMap, List.getElem?_toArray, List.getElem?_cons_zero, List.getElem?_cons_succ]); (repeat (go_big_quiet_step (fail))); refine wpQuiet_nil ?_)
          (refine RZ.done (by kernel_rfl) (by kernel_rfl) ?_)
          go_wp2_with fail
          go_ret
          exact ⟨Or.inl ⟨_, rfl, by rw [HR.out]; exact ho8⟩, hbx8⟩
        · intro K hK
          go_wp2_with fail
          refine hK _ _ (below_undrewC (bw_alloc hb2)) ?_
          clear hK
          have hb3 : Below w.heap.size w (W2.alloc (.cells #[.int .i64 x] 3)) := bw_alloc hb2
          have bx3 := Box.new W2 [.int .i64 x] 3
          refine RZ.single 4 rfl (by kernel_rfl) (by omega) ?_
          intro K hK
          obtain ⟨v4, w4, hrun4, ho4, hb4, hg4, hz4⟩ := run_pushAll (L := Lay.int) (c := c) intTy cellsInt_ok 38 (ho2.alloc (.cells #[.int .i64 x] 3)) (fun x vs h => h) rfl (hst.mono hb3) (by rw [htl]; simp [maxLen]; omega) (by rw [htl]; simp; omega) hb3.size
          rw [htl] at hrun4
          rw [List.nil_append] at ho4
          refine wpList_appendRunD 37 rfl rfl (.tmp 33) (.tmp 36) 38 rfl rfl rfl hrun4 ?_
          simp only [List.setIfInBounds_toArray, List.set_cons_succ, List.set_cons_zero]
          go_wp2_with fail
          have hbx4 : Below w.heap.size w w4 := hb3.trans hb4
          refine hK _ _ (below_undrewC hbx4) ?_
          clear hK
          have bx4 := bx3.grown hg4 (by simp [Value.ownBlock]; omega)
          have hxc : ∀ j u, (cellsInt x)[j]? = some u → w4.cell? ⟨W2.heap.size, j, none⟩ = some u := fun j u hj => bx4.cell j hj
          refine RZ.single 7 rfl (by kernel_rfl) (by omega) ?_
          intro K hK
          obtain ⟨v7, w7, hrun7, ho7, hb7, hg7, hz7⟩ := run_push intTy cellsInt_ok 38 ho4 x W2.heap.size 1 hxc (by rw [htl]; simp [maxLen]; omega) (by rw [htl]; omega) hbx4.size
          refine wpList_appendRunD 40 rfl rfl (.tmp 37) (.tmp 39) 38 rfl rfl rfl hrun7 ?_
          simp only [List.setIfInBounds_toArray, List.set_cons_succ, List.set_cons_zero]
          go_wp2_with fail
          have hbx7 : Below w.heap.size w w7 := hbx4.trans hb7
          refine hK _ _ (below_undrewC hbx7) ?_
          clear hK
          refine RZ.single 11 rfl (by kernel_rfl) (by omega) ?_
          intro K hK
          obtain ⟨v8, w8, hrun8, ho8, hb8, hg8, hz8⟩ := run_pushAll (L := Lay.int) (c := c - l.length) intTy cellsInt_ok 38 ho7 (fun x vs h => h) rfl (Sl.nil : Sl Lay.int w7 A43 []) (by rw [List.length_append, htl]; simp [maxLen]; omega) (by rw [List.length_append, htl]; simp; omega) hbx7.size
          rw [List.length_nil] at hrun8
          refine wpList_appendRunD 44 rfl rfl (.tmp 40) (.tmp 43) 38 rfl rfl rfl hrun8 ?_
          simp only [List.setIfInBounds_toArray, List.set_cons_succ, List.set_cons_zero]
          go_wp2_with fail
          have hbx8 : Below w.heap.size w w8 := hbx7.trans hb8
          refine hK _ _ (below_undrewC hbx8) ?_
          clear hK
          refine RZ.chunk (f := 0) [12] (by kernel_rfl) ?_
          ((simp only [pickOps, List.filterMap, List.getElem?_toArray, List.getElem?_cons_zero, List.getElem?_cons_succ]); (repeat (go_big_quiet_step (fail))); refine wpQuiet_nil ?_)
          (refine RZ.done (by kernel_rfl) (by kernel_rfl) ?_)
          go_wp2_with fail
          go_ret
          exact ⟨Or.inl ⟨_, rfl, by rw [HR.out]; exact ho8⟩, hbx8⟩
      · intro K hK
        go_wp2_with fail
        refine hK _ _ (bw_alloc (Below.refl _ _)) ?_
        clear hK
        generalize hW : World.drew (World.alloc _ _) = W2
        have hb2 : Below w.heap.size w W2 := by rw [← hW]; exact (by repeat (first | assumption | exact Below.refl _ _ | apply bw_alloc | apply bw_drew | apply bw_drewN | apply bw_later | apply bw_step))
        have hz2 : w.heap.size < W2.heap.size := by rw [← hW]; simp
        have bx2 : Box W2 w.heap.size [.int .i64 x] 3 := by rw [← hW]; exact (Box.new _ _ _).drew
        clear hW
        refine RZ.single 0 rfl (by kernel_rfl) (by omega) ?_
        intro K hK
        go_wp2_with fail
        refine hK _ _ (below_undrewC (bw_alloc hb2)) ?_
        clear hK
        have hb3 : Below w.heap.size w (W2.alloc (.cells #[] 3)) := bw_alloc hb2
        have ho3 : Own cellsInt 1 w.heap.size 3 (W2.alloc (.cells #[] 3)) (.slice (some ⟨W2.heap.size, 0, none⟩) 0 0) ([] : List Int) := Own.lit W2 #[] [] hb2.size (by decide) rfl rfl
        refine RZ.single 4 rfl (by kernel_rfl) (by omega) ?_
        intro K hK
        obtain ⟨v4, w4, hrun4, ho4, hb4, hg4, hz4⟩ := run_pushAll (L := Lay.int) (c := c) intTy cellsInt_ok 38 ho3 (fun x vs h => h) rfl (hst.mono hb3) (by rw [htl]; simp [maxLen]; omega) (by rw [htl]; simp; omega) hb3.size
        rw [htl] at hrun4
        rw [List.nil_append] at ho4
        refine wpList_appendRunD 37 rfl rfl (.tmp 33) (.tmp 36) 38 rfl rfl rfl hrun4 ?_
        simp only [List.setIfInBounds_toArray, List.set_cons_succ, List.set_cons_zero]
        go_wp2_with fail
        have hbx4 : Below w.heap.size w w4 := hb3.trans hb4
        refine hK _ _ (below_undrewC hbx4) ?_
        clear hK
        have bx4 := (bx2.alloc (.cells #[] 3)).grown hg4 (by simp [Value.ownBlock]; omega)
        have hxc : ∀ j u, (cellsInt x)[j]? = some u → w4.cell? ⟨w.heap.size, j, none⟩ = some u := fun j u hj => bx4.cell j hj
        refine RZ.single 7 rfl (by kernel_rfl) (by omega) ?_
        intro K hK
        obtain ⟨v7, w7, hrun7, ho7, hb7, hg7, hz7⟩ := run_push intTy cellsInt_ok 38 ho4 x w.heap.size 1 hxc (by rw [htl]; simp [maxLen]; omega) (by rw [htl]; omega) hbx4.size
        refine wpList_appendRunD 40 rfl rfl (.tmp 37) (.tmp 39) 38 rfl rfl rfl hrun7 ?_
        simp only [List.setIfInBounds_toArray, List.set_cons_succ, List.set_cons_zero]
        go_wp2_with fail
        have hbx7 : Below w.heap.size w w7 := hbx4.trans hb7
        refine hK _ _ (below_undrewC hbx7) ?_
        clear hK
        refine RZ.single 11 rfl (by kernel_rfl) (by omega) ?_
        intro K hK
        obtain ⟨v8, w8, hrun8, ho8, hb8, hg8, hz8⟩ := run_pushAll (L := Lay.int) (c := c - l.length) intTy cellsInt_ok 38 ho7 (fun x vs h => h) rfl (Sl.nil : Sl Lay.int w7 A43 []) (by rw [List.length_append, htl]; simp [maxLen]; omega) (by rw [List.length_append, htl]; simp; omega) hbx7.size
        rw [List.length_nil] at hrun8
        refine wpList_appendRunD 44 rfl rfl (.tmp 40) (.tmp 43) 38 rfl rfl rfl hrun8 ?_
        simp only [List.setIfInBounds_toArray, List.set_cons_succ, List.set_cons_zero]
        go_wp2_with fail
        have hbx8 : Below w.heap.size w w8 := hbx7.trans hb8
        refine hK _ _ (below_undrewC hbx8) ?_
        clear hK
        refine RZ.chunk (f := 0) [12] (by kernel_rfl) ?_
        ((simp only [pickOps, List.filterMap, List.getElem?_toArray, List.getElem?_cons_zero, List.getElem?_cons_succ]); (repeat (go_big_quiet_step (fail))); refine wpQuiet_nil ?_)
        (refine RZ.done (by kernel_rfl) (by kernel_rfl) ?_)
        go_wp2_with fail
        go_ret
        exact ⟨Or.inl ⟨_, rfl, by rw [HR.out]; exact ho8⟩, hbx8⟩
end Go.Proofs.Ythlpndgfphjlkaa
