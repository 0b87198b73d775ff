/-
  Chapter 10: the answer's put: a string in its place in an ascending list. (The text of CfgG, for strings.)
  Chapter 10: the answer's Subs and Targets in any hierarchy.
  Chapters 15, 42: the answer's Dispatch; the functions that a rule means (the program's and the answer's).
  Chapter 42: the functions that a rule means, in the answer.
  Chapter 42: the walk of PolicyFuncs.
-/
import Derived.Test.YtmhdambkchlilaaGreatDoorJPolA
import Derived.Test.YtmhdambkchlilaaGreatDoorJGk
import Derived.Test.YtmhdambkchlilaaGreatDoorJPl
import Derived.Test.YtmhdambkchlilaaGreatDoorJRa
import Derived.Test.YtmhdambkchlilaaGreatDoorJHc
import Derived.Test.YtmhdambkchlilaaGreatDoorJGb
import Derived.Test.YtmhdambkchlilaaGreatDoorJGh
import Derived.Test.YtmhdambkchlilaaGreatDoorJRt
import Derived.Test.YtmhdambkchlilaaGreatDoorJPb
namespace Go.Proofs.YtmhdambkchlilaaGreatDoor
open Go.RowKit
set_option linter.unusedVariables false

/-- A row of the call's own, or the very slice that came in. -/
def RetPutS (w w' : World) (A : Option Addr) (c : Nat) (l r : List ByteArray) (e : Ending) : Prop := (∃ v, e = .returned v ∧ Own cellsStr 1 w.heap.size 9 w' v r) ∨ (e = .returned (.slice A l.length c) ∧ r = l)
set_option maxRecDepth 100000 in
set_option maxHeartbeats 2000000 in
theorem refPut_any (A : Option Addr) (c : Nat) (l : List ByteArray) (x : ByteArray) (w : World) (hl : l.length + 1 ≤ 8796093022208) (hc : l.length ≤ c) (hs : Sl Lay.str w A l) :
    Calls Tryz.prog 71 #[.slice A l.length c, .string x] w fun e w' => RetPutS w w' A c l (putS l x) e ∧ Below w.heap.size w w' := by
  go_enter Tryz.func71, Tryz.ntmps71
  go_wp2_with fail
  go_loop [5] (fun i => ∃ k : Nat, k ≤ l.length ∧ i = .int .i64 k ∧ Hid (∀ i (h : i < l.length), i < k → toL l[i] < toL x)) (fun i => l.length - (intOf i).toNat)
  case atStart => exact ⟨0, Nat.zero_le _, rfl, fun i h hi => by omega⟩
  case round =>
    obtain ⟨k, hk, rfl, HN⟩ := hrel
    by_cases hgo : ∃ h : k < l.length, toL l[k] < toL x
    · obtain ⟨hlt, hx⟩ := hgo
      obtain ⟨b, o, rfl, hb, d0⟩ := hs.str_at hlt
      have t1 : Op.bytesLess l[k].toList x.toList = true := by rw [bytesLess_eq]; exact decide_eq_true (ltS_lt.1 hx)
      have HE : Hid (∀ i (h : i < l.length), i < k + 1 → toL l[i] < toL x) := fun i h hi => by
        by_cases e : i = k
        · subst e; exact hx
        · exact HN.out i h (by omega)
      go_wp2_with fail
      go_round
      case rel => exact ⟨k + 1, by omega, by go_num, HE⟩
      case measure => simp [intOf]; omega
    by_cases hlt : k < l.length
    · have hx : ¬ toL l[k] < toL x := fun h => hgo ⟨hlt, h⟩
      obtain ⟨b, o, rfl, hb, d0⟩ := hs.str_at hlt
      have t1 : Op.bytesLess l[k].toList x.toList = false := by rw [bytesLess_eq]; exact decide_eq_false (fun h => hx (ltS_lt.2 h))
      by_cases he : l[k] = x
      · have HR : Hid (putS l x = l) := putS_same hlt HN.out he
        have t2 : (l[k].toList == x.toList) = true := by rw [he]; simp
        clear hx he
        go_wp2_with fail
        go_ret
        exact ⟨Or.inr ⟨rfl, HR.out⟩, Below.refl _ _⟩
      · have t2 : (l[k].toList == x.toList) = false := by rw [beq_eq_false_iff_ne]; exact fun h => he (toL_inj (by unfold toL; rw [← ByteArray.toList_eq, ← ByteArray.toList_eq]; exact h))
        have HR : Hid (putS l x = l.take k ++ [x] ++ l.drop k) := putS_new (by omega) HN.out (fun h => ⟨hx, he⟩)
        clear hx he
        have htl : (l.take k).length = k := by rw [List.length_take]; omega
        have hst : Sl Lay.str w (some ⟨b, o, none⟩) (l.take k) := hs.takeS k
        have hsd : Sl Lay.str w (some ⟨b, o + k, none⟩) (l.drop k) := hs.dropS k
        go_upto_region 6 with fail
        refine wp_region_RZ 13 (by kernel_rfl) (by kernel_rfl) ?_
        refine RZ.chunk (f := 6) [1, 2, 3, 5, 8, 9, 10] (by kernel_rfl) ?_
        ((simp only [pickOps, List.filterMap, List.getElem?_toArray, List.getElem?_cons_zero, List.getElem?_cons_succ]); (repeat (go_big_quiet_step (fail))); refine wpQuiet_nil ?_)
        refine RZ.both 0 6 rfl rfl (by kernel_rfl) (by omega) (by omega) ?_ ?_
        · intro K hK
          go_wp2_with fail
          refine hK _ _ (bw_alloc (Below.refl _ _)) ?_
          clear hK
          generalize hW : World.drew (World.alloc _ _) = W2
          have hb2 : Below w.heap.size w W2 := by rw [← hW]; exact (by repeat (first | assumption | exact Below.refl _ _ | apply bw_alloc | apply bw_drew | apply bw_drewN | apply bw_later | apply bw_step))
          have hz2 : w.heap.size < W2.heap.size := by rw [← hW]; simp
          have ho2 : Own cellsStr 1 w.heap.size 9 W2 (.slice (some ⟨w.heap.size, 0, none⟩) 0 0) ([] : List ByteArray) := by
            rw [← hW]
            exact (Own.lit w #[] [] (Nat.le_refl _) (by decide) rfl rfl).mono (bw_drew (Below.refl _ _))
          clear hW
          refine RZ.both 4 6 rfl rfl (by kernel_rfl) (by omega) (by omega) ?_ ?_
          · intro K hK
            obtain ⟨v4, w4, hrun4, ho4, hb4, hg4, hz4⟩ := run_pushAll (L := Lay.str) (c := c) strsTy cellsStr_ok 34 ho2 (fun x vs h => h) rfl (hst.mono hb2) (by rw [htl]; simp [maxLen]; omega) (by rw [htl]; simp; omega) hb2.size
            rw [htl] at hrun4
            rw [List.nil_append] at ho4
            refine wpList_appendRunD 37 rfl rfl (.tmp 33) (.tmp 36) 34 rfl rfl rfl hrun4 ?_
            simp only [List.setIfInBounds_toArray, List.set_cons_succ, List.set_cons_zero]
            go_wp2_with fail
            have hbx4 : Below w.heap.size w w4 := hb2.trans hb4
            refine hK _ _ (below_undrewC hbx4) ?_
            clear hK
            refine RZ.single 6 rfl (by kernel_rfl) (by omega) ?_
            intro K hK
            go_wp2_with fail
            refine hK _ _ (below_undrewC (bw_alloc hbx4)) ?_
            clear hK
            have hxc := cells_one_new w4 (.string x) 9
            have hbx5 : Below w.heap.size w (w4.alloc (.cells #[.string x] 9)) := bw_alloc hbx4
            have ho5 := ho4.alloc (.cells #[.string x] 9)
            refine RZ.single 7 rfl (by kernel_rfl) (by omega) ?_
            intro K hK
            obtain ⟨v7, w7, hrun7, ho7, hb7, hg7, hz7⟩ := run_push strsTy cellsStr_ok 34 ho5 x w4.heap.size 1 hxc (by rw [htl]; simp [maxLen]; omega) (by rw [htl]; omega) hbx5.size
            refine wpList_appendRunD 40 rfl rfl (.tmp 37) (.tmp 39) 34 rfl rfl rfl hrun7 ?_
            simp only [List.setIfInBounds_toArray, List.set_cons_succ, List.set_cons_zero]
            go_wp2_with fail
            have hbx7 : Below w.heap.size w w7 := hbx5.trans hb7
            refine hK _ _ (below_undrewC hbx7) ?_
            clear hK
            refine RZ.single 11 rfl (by kernel_rfl) (by omega) ?_
            intro K hK
            obtain ⟨v8, w8, hrun8, ho8, hb8, hg8, hz8⟩ := run_pushAll (L := Lay.str) (c := c - k) strsTy cellsStr_ok 34 ho7 (fun x vs h => h) rfl (hsd.mono hbx7) (by rw [List.length_append, htl, List.length_drop]; simp [maxLen]; omega) (by rw [List.length_append, htl, List.length_drop]; simp; omega) hbx7.size
            rw [List.length_drop] at hrun8
            refine wpList_appendRunD 44 rfl rfl (.tmp 40) (.tmp 43) 34 rfl rfl rfl hrun8 ?_
            simp only [List.setIfInBounds_toArray, List.set_cons_succ, List.set_cons_zero]
            go_wp2_with fail
            have hbx8 : Below w.heap.size w w8 := hbx7.trans hb8
            refine hK _ _ (below_undrewC hbx8) ?_
            clear hK
            refine RZ.chunk (f := 0) [12] (by kernel_rfl) ?_
            ((simp only [pickOps, List.filterMap, List.getElem?_toArray, List.getElem?_cons_zero, List.getElem?_cons_succ]); (repeat (go_big_quiet_step (fail))); refine wpQuiet_nil ?_)
            (refine RZ.done (by kernel_rfl) (by kernel_rfl) ?_)
            go_wp2_with fail
            go_ret
            exact ⟨Or.inl ⟨_, rfl, by rw [HR.out]; exact ho8⟩, hbx8⟩
          · intro K hK
            go_wp2_with fail
            refine hK _ _ (below_undrewC (bw_alloc hb2)) ?_
            clear hK
            have hb3 : Below w.heap.size w (W2.alloc (.cells #[.string x] 9)) := bw_alloc hb2
            have bx3 := Box.new W2 [.string x] 9
            refine RZ.single 4 rfl (by kernel_rfl) (by omega) ?_
            intro K hK
            obtain ⟨v4, w4, hrun4, ho4, hb4, hg4, hz4⟩ := run_pushAll (L := Lay.str) (c := c) strsTy cellsStr_ok 34 (ho2.alloc (.cells #[.string x] 9)) (fun x vs h => h) rfl (hst.mono hb3) (by rw [htl]; simp [maxLen]; omega) (by rw [htl]; simp; omega) hb3.size
            rw [htl] at hrun4
            rw [List.nil_append] at ho4
            refine wpList_appendRunD 37 rfl rfl (.tmp 33) (.tmp 36) 34 rfl rfl rfl hrun4 ?_
            simp only [List.setIfInBounds_toArray, List.set_cons_succ, List.set_cons_zero]
            go_wp2_with fail
            have hbx4 : Below w.heap.size w w4 := hb3.trans hb4
            refine hK _ _ (below_undrewC hbx4) ?_
            clear hK
            have bx4 := bx3.grown hg4 (by simp [Value.ownBlock]; omega)
            have hxc : ∀ j u, (cellsStr x)[j]? = some u → w4.cell? ⟨W2.heap.size, j, none⟩ = some u := fun j u hj => bx4.cell j hj
            refine RZ.single 7 rfl (by kernel_rfl) (by omega) ?_
            intro K hK
            obtain ⟨v7, w7, hrun7, ho7, hb7, hg7, hz7⟩ := run_push strsTy cellsStr_ok 34 ho4 x W2.heap.size 1 hxc (by rw [htl]; simp [maxLen]; omega) (by rw [htl]; omega) hbx4.size
            refine wpList_appendRunD 40 rfl rfl (.tmp 37) (.tmp 39) 34 rfl rfl rfl hrun7 ?_
            simp only [List.setIfInBounds_toArray, List.set_cons_succ, List.set_cons_zero]
            go_wp2_with fail
            have hbx7 : Below w.heap.size w w7 := hbx4.trans hb7
            refine hK _ _ (below_undrewC hbx7) ?_
            clear hK
            refine RZ.single 11 rfl (by kernel_rfl) (by omega) ?_
            intro K hK
            obtain ⟨v8, w8, hrun8, ho8, hb8, hg8, hz8⟩ := run_pushAll (L := Lay.str) (c := c - k) strsTy cellsStr_ok 34 ho7 (fun x vs h => h) rfl (hsd.mono hbx7) (by rw [List.length_append, htl, List.length_drop]; simp [maxLen]; omega) (by rw [List.length_append, htl, List.length_drop]; simp; omega) hbx7.size
            rw [List.length_drop] at hrun8
            refine wpList_appendRunD 44 rfl rfl (.tmp 40) (.tmp 43) 34 rfl rfl rfl hrun8 ?_
            simp only [List.setIfInBounds_toArray, List.set_cons_succ, List.set_cons_zero]
            go_wp2_with fail
            have hbx8 : Below w.heap.size w w8 := hbx7.trans hb8
            refine hK _ _ (below_undrewC hbx8) ?_
            clear hK
            refine RZ.chunk (f := 0) [12] (by kernel_rfl) ?_
            ((simp only [pickOps, List.filterMap, List.getElem?_toArray, List.getElem?_cons_zero, List.getElem?_cons_succ]); (repeat (go_big_quiet_step (fail))); refine wpQuiet_nil ?_)
            (refine RZ.done (by kernel_rfl) (by kernel_rfl) ?_)
            go_wp2_with fail
            go_ret
            exact ⟨Or.inl ⟨_, rfl, by rw [HR.out]; exact ho8⟩, hbx8⟩
        · intro K hK
          go_wp2_with fail
          refine hK _ _ (bw_alloc (Below.refl _ _)) ?_
          clear hK
          generalize hW : World.drew (World.alloc _ _) = W2
          have hb2 : Below w.heap.size w W2 := by rw [← hW]; exact (by repeat (first | assumption | exact Below.refl _ _ | apply bw_alloc | apply bw_drew | apply bw_drewN | apply bw_later | apply bw_step))
          have hz2 : w.heap.size < W2.heap.size := by rw [← hW]; simp
          have bx2 : Box W2 w.heap.size [.string x] 9 := by rw [← hW]; exact (Box.new _ _ _).drew
          clear hW
          refine RZ.single 0 rfl (by kernel_rfl) (by omega) ?_
          intro K hK
          go_wp2_with fail
          refine hK _ _ (below_undrewC (bw_alloc hb2)) ?_
          clear hK
          have hb3 : Below w.heap.size w (W2.alloc (.cells #[] 9)) := bw_alloc hb2
          have ho3 : Own cellsStr 1 w.heap.size 9 (W2.alloc (.cells #[] 9)) (.slice (some ⟨W2.heap.size, 0, none⟩) 0 0) ([] : List ByteArray) := Own.lit W2 #[] [] hb2.size (by decide) rfl rfl
          refine RZ.single 4 rfl (by kernel_rfl) (by omega) ?_
          intro K hK
          obtain ⟨v4, w4, hrun4, ho4, hb4, hg4, hz4⟩ := run_pushAll (L := Lay.str) (c := c) strsTy cellsStr_ok 34 ho3 (fun x vs h => h) rfl (hst.mono hb3) (by rw [htl]; simp [maxLen]; omega) (by rw [htl]; simp; omega) hb3.size
          rw [htl] at hrun4
          rw [List.nil_append] at ho4
          refine wpList_appendRunD 37 rfl rfl (.tmp 33) (.tmp 36) 34 rfl rfl rfl hrun4 ?_
          simp only [List.setIfInBounds_toArray, List.set_cons_succ, List.set_cons_zero]
          go_wp2_with fail
          have hbx4 : Below w.heap.size w w4 := hb3.trans hb4
          refine hK _ _ (below_undrewC hbx4) ?_
          clear hK
          have bx4 := (bx2.alloc (.cells #[] 9)).grown hg4 (by simp [Value.ownBlock]; omega)
          have hxc : ∀ j u, (cellsStr x)[j]? = some u → w4.cell? ⟨w.heap.size, j, none⟩ = some u := fun j u hj => bx4.cell j hj
          refine RZ.single 7 rfl (by kernel_rfl) (by omega) ?_
          intro K hK
          obtain ⟨v7, w7, hrun7, ho7, hb7, hg7, hz7⟩ := run_push strsTy cellsStr_ok 34 ho4 x w.heap.size 1 hxc (by rw [htl]; simp [maxLen]; omega) (by rw [htl]; omega) hbx4.size
          refine wpList_appendRunD 40 rfl rfl (.tmp 37) (.tmp 39) 34 rfl rfl rfl hrun7 ?_
          simp only [List.setIfInBounds_toArray, List.set_cons_succ, List.set_cons_zero]
          go_wp2_with fail
          have hbx7 : Below w.heap.size w w7 := hbx4.trans hb7
          refine hK _ _ (below_undrewC hbx7) ?_
          clear hK
          refine RZ.single 11 rfl (by kernel_rfl) (by omega) ?_
          intro K hK
          obtain ⟨v8, w8, hrun8, ho8, hb8, hg8, hz8⟩ := run_pushAll (L := Lay.str) (c := c - k) strsTy cellsStr_ok 34 ho7 (fun x vs h => h) rfl (hsd.mono hbx7) (by rw [List.length_append, htl, List.length_drop]; simp [maxLen]; omega) (by rw [List.length_append, htl, List.length_drop]; simp; omega) hbx7.size
          rw [List.length_drop] at hrun8
          refine wpList_appendRunD 44 rfl rfl (.tmp 40) (.tmp 43) 34 rfl rfl rfl hrun8 ?_
          simp only [List.setIfInBounds_toArray, List.set_cons_succ, List.set_cons_zero]
          go_wp2_with fail
          have hbx8 : Below w.heap.size w w8 := hbx7.trans hb8
          refine hK _ _ (below_undrewC hbx8) ?_
          clear hK
          refine RZ.chunk (f := 0) [12] (by kernel_rfl) ?_
          ((simp only [pickOps, List.filterMap, List.getElem?_toArray, List.getElem?_cons_zero, List.getElem?_cons_succ]); (repeat (go_big_quiet_step (fail))); refine wpQuiet_nil ?_)
          (refine RZ.done (by kernel_rfl) (by kernel_rfl) ?_)
          go_wp2_with fail
          go_ret
          exact ⟨Or.inl ⟨_, rfl, by rw [HR.out]; exact ho8⟩, hbx8⟩
    · obtain rfl : k = l.length := by omega
      have HR : Hid (putS l x = l.take l.length ++ [x] ++ []) := by
        have := putS_new (Nat.le_refl _) HN.out (fun h => by omega)
        rw [List.drop_length] at this
        exact this
      have htl : (l.take l.length).length = l.length := by rw [List.take_length]
      have hst : Sl Lay.str w A (l.take l.length) := hs.takeS _
      go_upto_region 6 with fail
      refine wp_region_RZ 13 (by kernel_rfl) (by kernel_rfl) ?_
      refine RZ.chunk (f := 6) [1, 2, 3, 5, 8, 9, 10] (by kernel_rfl) ?_
      ((simp only [pickOps, List.filterMap, List.getElem?_toArray, List.getElem?_cons_zero, List.getElem?_cons_succ]); (repeat (go_big_quiet_step (fail))); refine wpQuiet_nil ?_)
      generalize (if c = l.length then A else Option.map (fun x => x.add l.length) A) = A43
      refine RZ.both 0 6 rfl rfl (by kernel_rfl) (by omega) (by omega) ?_ ?_
      · intro K hK
        go_wp2_with fail
        refine hK _ _ (bw_alloc (Below.refl _ _)) ?_
        clear hK
        generalize hW : World.drew (World.alloc _ _) = W2
        have hb2 : Below w.heap.size w W2 := by rw [← hW]; exact (by repeat (first | assumption | exact Below.refl _ _ | apply bw_alloc | apply bw_drew | apply bw_drewN | apply bw_later | apply bw_step))
        have hz2 : w.heap.size < W2.heap.size := by rw [← hW]; simp
        have ho2 : Own cellsStr 1 w.heap.size 9 W2 (.slice (some ⟨w.heap.size, 0, none⟩) 0 0) ([] : List ByteArray) := by
          rw [← hW]
          exact (Own.lit w #[] [] (Nat.le_refl _) (by decide) rfl rfl).mono (bw_drew (Below.refl _ _))
        clear hW
        refine RZ.both 4 6 rfl rfl (by kernel_rfl) (by omega) (by omega) ?_ ?_
        · intro K hK
          obtain ⟨v4, w4, hrun4, ho4, hb4, hg4, hz4⟩ := run_pushAll (L := Lay.str) (c := c) strsTy cellsStr_ok 34 ho2 (fun x vs h => h) rfl (hst.mono hb2) (by rw [htl]; simp [maxLen]; omega) (by rw [htl]; simp; omega) hb2.size
          rw [htl] at hrun4
          rw [List.nil_append] at ho4
          refine wpList_appendRunD 37 rfl rfl (.tmp 33) (.tmp 36) 34 rfl rfl rfl hrun4 ?_
          simp only [List.setIfInBounds_toArray, List.set_cons_succ, List.set_cons_zero]
          go_wp2_with fail
          have hbx4 : Below w.heap.size w w4 := hb2.trans hb4
          refine hK _ _ (below_undrewC hbx4) ?_
          clear hK
          refine RZ.single 6 rfl (by kernel_rfl) (by omega) ?_
          intro K hK
          go_wp2_with fail
          refine hK _ _ (below_undrewC (bw_alloc hbx4)) ?_
          clear hK
          have hxc := cells_one_new w4 (.string x) 9
          have hbx5 : Below w.heap.size w (w4.alloc (.cells #[.string x] 9)) := bw_alloc hbx4
          have ho5 := ho4.alloc (.cells #[.string x] 9)
          refine RZ.single 7 rfl (by kernel_rfl) (by omega) ?_
          intro K hK
          obtain ⟨v7, w7, hrun7, ho7, hb7, hg7, hz7⟩ := run_push strsTy cellsStr_ok 34 ho5 x w4.heap.size 1 hxc (by rw [htl]; simp [maxLen]; omega) (by rw [htl]; omega) hbx5.size
          refine wpList_appendRunD 40 rfl rfl (.tmp 37) (.tmp 39) 34 rfl rfl rfl hrun7 ?_
          simp only [List.setIfInBounds_toArray, List.set_cons_succ, List.set_cons_zero]
          go_wp2_with fail
          have hbx7 : Below w.heap.size w w7 := hbx5.trans hb7
          refine hK _ _ (below_undrewC hbx7) ?_
          clear hK
          refine RZ.single 11 rfl (by kernel_rfl) (by omega) ?_
          intro K hK
          obtain ⟨v8, w8, hrun8, ho8, hb8, hg8, hz8⟩ := run_pushAll (L := Lay.str) (c := c - l.length) strsTy cellsStr_ok 34 ho7 (fun x vs h => h) rfl (Sl.nil : Sl Lay.str w7 A43 []) (by rw [List.length_append, htl]; simp [maxLen]; omega) (by rw [List.length_append, htl]; simp; omega) hbx7.size
          rw [List.length_nil] at hrun8
          refine wpList_appendRunD 44 rfl rfl (.tmp 40) (.tmp 43) 34 rfl rfl rfl hrun8 ?_
          simp only [List.setIfInBounds_toArray, List.set_cons_succ, List.set_cons_zero]
          go_wp2_with fail
          have hbx8 : Below w.heap.size w w8 := hbx7.trans hb8
          refine hK _ _ (below_undrewC hbx8) ?_
          clear hK
          refine RZ.chunk (f := 0) [12] (by kernel_rfl) ?_
          ((simp only [pickOps, List.filterMap, List.getElem?_toArray, List.getElem?_cons_zero, List.getElem?_cons_succ]); (repeat (go_big_quiet_step (fail))); refine wpQuiet_nil ?_)
          (refine RZ.done (by kernel_rfl) (by kernel_rfl) ?_)
          go_wp2_with fail
          go_ret
          exact ⟨Or.inl ⟨_, rfl, by rw [HR.out]; exact ho8⟩, hbx8⟩
        · intro K hK
          go_wp2_with fail
          refine hK _ _ (below_undrewC (bw_alloc hb2)) ?_
          clear hK
          have hb3 : Below w.heap.size w (W2.alloc (.cells #[.string x] 9)) := bw_alloc hb2
          have bx3 := Box.new W2 [.string x] 9
          refine RZ.single 4 rfl (by kernel_rfl) (by omega) ?_
          intro K hK
          obtain ⟨v4, w4, hrun4, ho4, hb4, hg4, hz4⟩ := run_pushAll (L := Lay.str) (c := c) strsTy cellsStr_ok 34 (ho2.alloc (.cells #[.string x] 9)) (fun x vs h => h) rfl (hst.mono hb3) (by rw [htl]; simp [maxLen]; omega) (by rw [htl]; simp; omega) hb3.size
          rw [htl] at hrun4
          rw [List.nil_append] at ho4
          refine wpList_appendRunD 37 rfl rfl (.tmp 33) (.tmp 36) 34 rfl rfl rfl hrun4 ?_
          simp only [List.setIfInBounds_toArray, List.set_cons_succ, List.set_cons_zero]
          go_wp2_with fail
          have hbx4 : Below w.heap.size w w4 := hb3.trans hb4
          refine hK _ _ (below_undrewC hbx4) ?_
          clear hK
          have bx4 := bx3.grown hg4 (by simp [Value.ownBlock]; omega)
          have hxc : ∀ j u, (cellsStr x)[j]? = some u → w4.cell? ⟨W2.heap.size, j, none⟩ = some u := fun j u hj => bx4.cell j hj
          refine RZ.single 7 rfl (by kernel_rfl) (by omega) ?_
          intro K hK
          obtain ⟨v7, w7, hrun7, ho7, hb7, hg7, hz7⟩ := run_push strsTy cellsStr_ok 34 ho4 x W2.heap.size 1 hxc (by rw [htl]; simp [maxLen]; omega) (by rw [htl]; omega) hbx4.size
          refine wpList_appendRunD 40 rfl rfl (.tmp 37) (.tmp 39) 34 rfl rfl rfl hrun7 ?_
          simp only [List.setIfInBounds_toArray, List.set_cons_succ, List.set_cons_zero]
          go_wp2_with fail
          have hbx7 : Below w.heap.size w w7 := hbx4.trans hb7
          refine hK _ _ (below_undrewC hbx7) ?_
          clear hK
          refine RZ.single 11 rfl (by kernel_rfl) (by omega) ?_
          intro K hK
          obtain ⟨v8, w8, hrun8, ho8, hb8, hg8, hz8⟩ := run_pushAll (L := Lay.str) (c := c - l.length) strsTy cellsStr_ok 34 ho7 (fun x vs h => h) rfl (Sl.nil : Sl Lay.str w7 A43 []) (by rw [List.length_append, htl]; simp [maxLen]; omega) (by rw [List.length_append, htl]; simp; omega) hbx7.size
          rw [List.length_nil] at hrun8
          refine wpList_appendRunD 44 rfl rfl (.tmp 40) (.tmp 43) 34 rfl rfl rfl hrun8 ?_
          simp only [List.setIfInBounds_toArray, List.set_cons_succ, List.set_cons_zero]
          go_wp2_with fail
          have hbx8 : Below w.heap.size w w8 := hbx7.trans hb8
          refine hK _ _ (below_undrewC hbx8) ?_
          clear hK
          refine RZ.chunk (f := 0) [12] (by kernel_rfl) ?_
          ((simp only [pickOps, List.filterMap, List.getElem?_toArray, List.getElem?_cons_zero, List.getElem?_cons_succ]); (repeat (go_big_quiet_step (fail))); refine wpQuiet_nil ?_)
          (refine RZ.done (by kernel_rfl) (by kernel_rfl) ?_)
          go_wp2_with fail
          go_ret
          exact ⟨Or.inl ⟨_, rfl, by rw [HR.out]; exact ho8⟩, hbx8⟩
      · intro K hK
        go_wp2_with fail
        refine hK _ _ (bw_alloc (Below.refl _ _)) ?_
        clear hK
        generalize hW : World.drew (World.alloc _ _) = W2
        have hb2 : Below w.heap.size w W2 := by rw [← hW]; exact (by repeat (first | assumption | exact Below.refl _ _ | apply bw_alloc | apply bw_drew | apply bw_drewN | apply bw_later | apply bw_step))
        have hz2 : w.heap.size < W2.heap.size := by rw [← hW]; simp
        have bx2 : Box W2 w.heap.size [.string x] 9 := by rw [← hW]; exact (Box.new _ _ _).drew
        clear hW
        refine RZ.single 0 rfl (by kernel_rfl) (by omega) ?_
        intro K hK
        go_wp2_with fail
        refine hK _ _ (below_undrewC (bw_alloc hb2)) ?_
        clear hK
        have hb3 : Below w.heap.size w (W2.alloc (.cells #[] 9)) := bw_alloc hb2
        have ho3 : Own cellsStr 1 w.heap.size 9 (W2.alloc (.cells #[] 9)) (.slice (some ⟨W2.heap.size, 0, none⟩) 0 0) ([] : List ByteArray) := Own.lit W2 #[] [] hb2.size (by decide) rfl rfl
        refine RZ.single 4 rfl (by kernel_rfl) (by omega) ?_
        intro K hK
        obtain ⟨v4, w4, hrun4, ho4, hb4, hg4, hz4⟩ := run_pushAll (L := Lay.str) (c := c) strsTy cellsStr_ok 34 ho3 (fun x vs h => h) rfl (hst.mono hb3) (by rw [htl]; simp [maxLen]; omega) (by rw [htl]; simp; omega) hb3.size
        rw [htl] at hrun4
        rw [List.nil_append] at ho4
        refine wpList_appendRunD 37 rfl rfl (.tmp 33) (.tmp 36) 34 rfl rfl rfl hrun4 ?_
        simp only [List.setIfInBounds_toArray, List.set_cons_succ, List.set_cons_zero]
        go_wp2_with fail
        have hbx4 : Below w.heap.size w w4 := hb3.trans hb4
        refine hK _ _ (below_undrewC hbx4) ?_
        clear hK
        have bx4 := (bx2.alloc (.cells #[] 9)).grown hg4 (by simp [Value.ownBlock]; omega)
        have hxc : ∀ j u, (cellsStr x)[j]? = some u → w4.cell? ⟨w.heap.size, j, none⟩ = some u := fun j u hj => bx4.cell j hj
        refine RZ.single 7 rfl (by kernel_rfl) (by omega) ?_
        intro K hK
        obtain ⟨v7, w7, hrun7, ho7, hb7, hg7, hz7⟩ := run_push strsTy cellsStr_ok 34 ho4 x w.heap.size 1 hxc (by rw [htl]; simp [maxLen]; omega) (by rw [htl]; omega) hbx4.size
        refine wpList_appendRunD 40 rfl rfl (.tmp 37) (.tmp 39) 34 rfl rfl rfl hrun7 ?_
        simp only [List.setIfInBounds_toArray, List.set_cons_succ, List.set_cons_zero]
        go_wp2_with fail
        have hbx7 : Below w.heap.size w w7 := hbx4.trans hb7
        refine hK _ _ (below_undrewC hbx7) ?_
        clear hK
        refine RZ.single 11 rfl (by kernel_rfl) (by omega) ?_
        intro K hK
        obtain ⟨v8, w8, hrun8, ho8, hb8, hg8, hz8⟩ := run_pushAll (L := Lay.str) (c := c - l.length) strsTy cellsStr_ok 34 ho7 (fun x vs h => h) rfl (Sl.nil : Sl Lay.str w7 A43 []) (by rw [List.length_append, htl]; simp [maxLen]; omega) (by rw [List.length_append, htl]; simp; omega) hbx7.size
        rw [List.length_nil] at hrun8
        refine wpList_appendRunD 44 rfl rfl (.tmp 40) (.tmp 43) 34 rfl rfl rfl hrun8 ?_
        simp only [List.setIfInBounds_toArray, List.set_cons_succ, List.set_cons_zero]
        go_wp2_with fail
        have hbx8 : Below w.heap.size w w8 := hbx7.trans hb8
        refine hK _ _ (below_undrewC hbx8) ?_
        clear hK
        refine RZ.chunk (f := 0) [12] (by kernel_rfl) ?_
        ((simp only [pickOps, List.filterMap, List.getElem?_toArray, List.getElem?_cons_zero, List.getElem?_cons_succ]); (repeat (go_big_quiet_step (fail))); refine wpQuiet_nil ?_)
        (refine RZ.done (by kernel_rfl) (by kernel_rfl) ?_)
        go_wp2_with fail
        go_ret
        exact ⟨Or.inl ⟨_, rfl, by rw [HR.out]; exact ho8⟩, hbx8⟩
end Go.Proofs.YtmhdambkchlilaaGreatDoor
namespace Go.Proofs.YtmhdambkchlilaaGreatDoor
open Go.RowKit
set_option linter.unusedVariables false

def subL (cs : List Cls) (s : ByteArray) (k : Nat) : List ByteArray := ((cs.map (·.name)).take k).filter fun l => hasS (supersL cs l) s
theorem subL_yes {cs : List Cls} {s : ByteArray} {k : Nat} (hk : k < cs.length) (h : hasS (supersL cs cs[k].name) s = true) : subL cs s (k + 1) = subL cs s k ++ [cs[k].name] := by
  unfold subL
  rw [List.take_succ_eq_append_getElem (by simpa using hk), List.filter_append]
  simp [h]
theorem subL_no {cs : List Cls} {s : ByteArray} {k : Nat} (hk : k < cs.length) (h : hasS (supersL cs cs[k].name) s = false) : subL cs s (k + 1) = subL cs s k := by
  unfold subL
  rw [List.take_succ_eq_append_getElem (by simpa using hk), List.filter_append]
  simp [h]
theorem subL_len (cs : List Cls) (s : ByteArray) (k : Nat) : (subL cs s k).length ≤ k := by
  unfold subL
  refine Nat.le_trans (List.length_filter_le _ _) ?_
  rw [List.length_take]
  omega
theorem subL_end (cs : List Cls) (s : ByteArray) : putAllS (subL cs s cs.length) = subsR cs s := by
  unfold subL subsR
  rw [List.take_of_length_le (by simp)]
set_option maxRecDepth 100000 in
set_option maxHeartbeats 2000000 in
theorem refSubs_g (A : Option Addr) (c : Nat) (cs : List Cls) (s : ByteArray) (w : World) (hl : cs.length ≤ 8796093022208) (hsl : Sl Lay.cls w A cs) :
    Calls Tryz.prog 35 #[.agg #[.slice A cs.length c], .string s] w fun e w' => (∃ v, e = .returned v ∧ Own cellsStr 1 w.heap.size 9 w' v (subsR cs s)) ∧ Below w.heap.size w w' := by
  go_enter Tryz.func35, Tryz.ntmps35
  go_upto_region 1 with fail
  generalize hW : World.alloc _ _ = W1 at *
  have hb1 : Below w.heap.size w W1 := by rw [← hW]; exact (by repeat (first | assumption | exact Below.refl _ _ | apply bw_alloc | apply bw_drew | apply bw_drewN | apply bw_later | apply bw_step))
  have bh : Box W1 w.heap.size [.slice A cs.length c] 29 := by rw [← hW]; exact Box.new _ _ _
  clear hW
  go_wp2_with fail
  go_loopw [5, 6] (fun v i wr => ∃ k : Nat, k ≤ cs.length ∧ i = .int .i64 k ∧ Own cellsStr 1 w.heap.size 9 wr v (putAllS (subL cs s k)) ∧ Below W1.heap.size W1 wr) (fun _ i _ => cs.length - (intOf i).toNat)
  case atStart => exact ⟨0, Nat.zero_le _, rfl, Own.nil, Below.refl _ _⟩
  case round =>
    obtain ⟨k, hk, rfl, ho, hbr⟩ := hrel
    have hbw := below_step hb1 hbr
    have bhr := bh.mono hbr
    have h0 := bhr.cell 0 rfl
    have hlh := bhr.lt
    have hsle := subL_len cs s k
    have hple := putAllS_len (subL cs s k)
    by_cases hlt : k < cs.length
    · have HY := Lib.hid (@subL_yes cs s k hlt)
      have HN := Lib.hid (@subL_no cs s k hlt)
      obtain ⟨b0, o, A2, c2, A3, c3, rfl, hc2, hc3, hs2, hs3, HD⟩ := hsl.clsC hlt
      replace HD := Lib.hid HD
      have hkI : (k : Int) < cs.length := by omega
      obtain ⟨nm, hnm⟩ : ∃ nm, nm = cs[k].name := ⟨_, rfl⟩
      have HIS := Lib.hid (fun (W : World) (h : Below w.heap.size w W) => refIsSub_g (some ⟨b0, o, none⟩) c cs cs[k].name s W hl (hsl.mono h))
      rw [← hnm] at HY HN HD HIS
      clear hnm
      obtain ⟨L, HL⟩ : ∃ L, Hid (L = putAllS (subL cs s k)) := ⟨_, Lib.hid rfl⟩
      rw [← HL.out] at ho hple
      obtain ⟨AL, cL, rfl, hcL, hsL⟩ := StrsV.of_own ho
      obtain ⟨e0, d0, d1, d2, d3⟩ := HD.out _ hbw
      have HC : Hid (∀ y : Later wr, Calls Tryz.prog 20 #[.agg #[.slice (some ⟨b0, o, none⟩) cs.length c], .string nm, .string s] y.W fun e w' => e = .returned (.bool (hasS (supersL cs nm) s)) ∧ Below y.W.heap.size y.W w') := fun y => HIS.out _ (below_step hbw y.h)
      generalize hasS (supersL cs nm) s = q at *
      go_upto_region 5 with fail
      refine wp_region_later (by kernel_rfl) (by kernel_rfl) ?_
      repeat (go_big_quiet_step ((go_at_call 20; with_reducible exact Calls.later (HC.out _))))
      refine wpQuiet_nil ?_
      rintro _ ⟨y, rfl⟩
      have hbw3 := below_step hbw y.h
      have hbr3 := below_step hbr y.h
      have bh3 := bhr.mono y.h
      have ho3 := ho.mono y.h
      have hsL3 := hsL.mono y.h
      obtain ⟨W3, hW3⟩ : ∃ W3, W3 = y.W := ⟨_, rfl⟩
      rw [← hW3] at hbw3 hbr3 bh3 ho3 hsL3 ⊢
      clear hW3 HC h0 hlh e0 d0 d1 d2 d3 ho hsL bhr
      cases q with
      | false =>
        have HN2 := Lib.hid (HN.out rfl)
        go_wp2_with fail
        go_roundw
        case rel => exact ⟨k + 1, by omega, by go_num, by rw [HN2.out, ← HL.out]; exact ho3, hbr3⟩
        case measure => simp [intOf]; omega
      | true =>
        have HY2 := Lib.hid (HY.out rfl)
        have h0 := bh3.cell 0 rfl
        have hlh := bh3.lt
        obtain ⟨e0, d0, d1, d2, d3⟩ := HD.out _ hbw3
        go_wp2_with fail
        refine (refPut_any AL cL L nm _ (by omega) hcL hsL3).mono ?_
        rintro e w4 ⟨hR, hq4⟩
        have hnew : putAllS (subL cs s (k + 1)) = putS L nm := by rw [HY2.out, putAllS_snoc, ← HL.out]
        replace hnew := Lib.hid hnew
        rcases hR with ⟨v, rfl, hov⟩ | ⟨rfl, hr⟩
        · have hov2 := hov.base_le' (base' := w.heap.size) hbw3.size
          go_wp2_with fail
          go_roundw
          case rel => exact ⟨k + 1, by omega, by go_num, by rw [hnew.out]; exact hov2, below_step hbr3 hq4⟩
          case measure => simp [intOf]; omega
        · have HR := Lib.hid hr
          clear hr
          go_wp2_with fail
          go_roundw
          case rel => exact ⟨k + 1, by omega, by go_num, by rw [hnew.out, HR.out]; exact ho3.mono hq4, below_step hbr3 hq4⟩
          case measure => simp [intOf]; omega
    · have hke : k = cs.length := by omega
      have HE : Hid (putAllS (subL cs s k) = subsR cs s) := by show _ = _; rw [hke, subL_end]
      clear hke
      go_wp2_with fail
      go_ret
      exact ⟨⟨_, rfl, by rw [← HE.out]; exact ho⟩, hbw⟩

theorem tgt_ok {cs : List Cls} {l m : ByteArray} {w' : World} {nm : ByteArray} {g : Sg} {A : Option Addr} {c : Nat} {ok : Bool} (h : LokR cs (lookS cs l m) w' nm g A c ok) : tgtR cs m l = if ok then [nm] else [] := by
  have hb := lookL_bd (cs := cs) (m := m) (chR_bd (fnd_bd cs l).2).1
  unfold tgtR
  rcases hb with h0 | ⟨j, k, hj, hk, h1, _, _⟩
  · have h0' : lookS cs l m = (-1, -1) := h0
    rw [h0', if_neg (by decide)]
    cases ok with
    | false => rfl
    | true =>
      have := (h.yes rfl).1
      rw [h0'] at this
      cases this
  · have h1' : lookS cs l m = ((j : Int), (k : Int)) := h1
    rw [h1', if_pos (by show (0 : Int) ≤ (j : Int); omega)]
    cases ok with
    | true =>
      have := (h.yes rfl).2
      rw [h1'] at this
      rw [this]; rfl
    | false =>
      have h2 := h.no rfl
      rw [h1'] at h2
      unfold sgAt at h2
      rw [if_neg (by show ¬ (j : Int) < 0; omega)] at h2
      simp only [Int.toNat_natCast] at h2
      rw [List.getElem?_eq_getElem hj] at h2
      have h3 : cs[j].methods[k]? = none := h2
      rw [List.getElem?_eq_getElem hk] at h3
      cases h3
def tgL (cs : List Cls) (m : ByteArray) (N : List ByteArray) (k : Nat) : List ByteArray := (N.take k).flatMap (tgtR cs m)
theorem tgL_succ {cs : List Cls} {m : ByteArray} {N : List ByteArray} {k : Nat} (hk : k < N.length) : tgL cs m N (k + 1) = tgL cs m N k ++ tgtR cs m N[k] := by
  unfold tgL
  rw [List.take_succ_eq_append_getElem hk, List.flatMap_append]
  simp
theorem tgL_len (cs : List Cls) (m : ByteArray) (N : List ByteArray) (k : Nat) : (tgL cs m N k).length ≤ k := by
  unfold tgL
  have : ∀ l : List ByteArray, (l.flatMap (tgtR cs m)).length ≤ l.length := by
    intro l
    induction l with
    | nil => simp
    | cons a r ih =>
      rw [List.flatMap_cons, List.length_append, List.length_cons]
      have : (tgtR cs m a).length ≤ 1 := by unfold tgtR; split <;> simp
      omega
  refine Nat.le_trans (this _) ?_
  rw [List.length_take]
  omega
theorem subsR_len (cs : List Cls) (s : ByteArray) : (subsR cs s).length ≤ cs.length := by
  unfold subsR
  refine Nat.le_trans (putAllS_len _) ?_
  refine Nat.le_trans (List.length_filter_le _ _) ?_
  rw [List.length_map]
  exact Nat.le_refl _
set_option maxRecDepth 100000 in
set_option maxHeartbeats 3000000 in
theorem refTargets_g (A : Option Addr) (c : Nat) (cs : List Cls) (s m : ByteArray) (w : World) (hl : cs.length ≤ 8796093022208) (hsl : Sl Lay.cls w A cs) (hlk : Hid (LensOk cs)) :
    Calls Tryz.prog 66 #[.agg #[.slice A cs.length c], .string s, .string m] w fun e w' => (∃ v, e = .returned v ∧ Own cellsStr 1 w.heap.size 9 w' v (targetsR cs s m)) ∧ Below w.heap.size w w' := by
  have hNl := subsR_len cs s
  have HSB := Lib.hid (fun (W : World) (h : Below w.heap.size w W) => refSubs_g A c cs s W hl (hsl.mono h))
  have HT : Hid (targetsR cs s m = putAllS (tgL cs m (subsR cs s) (subsR cs s).length)) := by show _ = _; unfold tgL targetsR; rw [List.take_length]
  rw [HT.out]
  clear HT
  generalize subsR cs s = N at *
  go_enter Tryz.func66, Tryz.ntmps66
  go_upto_region 1 with fail
  generalize hW : World.alloc _ _ = W1 at *
  have hb1 : Below w.heap.size w W1 := by rw [← hW]; exact (by repeat (first | assumption | exact Below.refl _ _ | apply bw_alloc | apply bw_drew | apply bw_drewN | apply bw_later | apply bw_step))
  have bh : Box W1 w.heap.size [.slice A cs.length c] 29 := by rw [← hW]; exact Box.new _ _ _
  clear hW
  have h0 := bh.cell 0 rfl
  have hlh := bh.lt
  go_wp2_with fail
  refine (HSB.out _ hb1).mono ?_
  rintro e w2 ⟨⟨v2, rfl, ho2⟩, hq2⟩
  have hb2 := below_step hb1 hq2
  have bh2 := bh.mono hq2
  obtain ⟨AN, cN, rfl, hcN, hsN⟩ := StrsV.of_own ho2
  clear h0 hlh bh HSB hq2 ho2
  go_wp2_with fail
  go_loopw [7, 9] (fun v i wr => ∃ k : Nat, k ≤ N.length ∧ i = .int .i64 k ∧ Own cellsStr 1 w.heap.size 9 wr v (putAllS (tgL cs m N k)) ∧ Below w2.heap.size w2 wr) (fun _ i _ => N.length - (intOf i).toNat)
  case atStart => exact ⟨0, Nat.zero_le _, rfl, Own.nil, Below.refl _ _⟩
  case round =>
    obtain ⟨k, hk, rfl, ho, hbr⟩ := hrel
    have hbw := below_step hb2 hbr
    have bhr := bh2.mono hbr
    have hsle := tgL_len cs m N k
    have hple := putAllS_len (tgL cs m N k)
    by_cases hlt : k < N.length
    · have HS := Lib.hid (@tgL_succ cs m N k hlt)
      obtain ⟨bN, oN, rfl, hbN, n0⟩ := (hsN.mono hbr).str_at hlt
      have h0 := bhr.cell 0 rfl
      have hlh := bhr.lt
      obtain ⟨L, HL⟩ : ∃ L, Hid (L = putAllS (tgL cs m N k)) := ⟨_, Lib.hid rfl⟩
      rw [← HL.out] at ho hple
      obtain ⟨AL, cL, rfl, hcL, hsL⟩ := StrsV.of_own ho
      have HLK := Lib.hid (fun (W : World) (h : Below w.heap.size w W) => refLookup_g A c cs N[k] m W hl (hsl.mono h) hlk)
      go_upto_region 6 with fail
      go_cut [10, 12] (fun s10 s12 wx => ∃ (nm : ByteArray) (ok : Bool), s10 = .string nm ∧ s12 = .bool ok ∧ Hid (tgtR cs m N[k] = if ok then [nm] else []) ∧ Below wr.heap.size wr wx)
      case first =>
        generalize N[k] = x at *
        refine wp_region_RZ 15 (by kernel_rfl) (by kernel_rfl) ?_
        refine RZ.chunk (f := 9) [0, 1, 2, 3, 4, 5] (by kernel_rfl) ?_
        ((simp only [pickOps, List.filterMap, List.getElem?_toArray, List.getElem?_cons_zero, List.getElem?_cons_succ]); (repeat (go_big_quiet_step (fail))); refine wpQuiet_nil ?_)
        refine RZ.both 6 11 rfl rfl (by kernel_rfl) (by omega) (by omega) ?_ ?_
        · intro K hK
          go_wp2_with fail
          refine (HLK.out _ hbw.drew).mono ?_
          rintro e w3 ⟨hR, hb3⟩
          obtain ⟨nm, g, AP, cP, ok, rfl, hK3⟩ := hR.ok hlk.out
          have HTG := Lib.hid (tgt_ok hK3)
          have hb3' : Below wr.heap.size wr w3 := below_step (Below.refl _ _).drew hb3
          clear hR hK3
          go_wp2_with fail
          refine hK _ _ hb3 ?_
          clear hK
          refine RZ.chunk (f := 4) [7, 8, 9, 10] (by kernel_rfl) ?_
          ((simp only [pickOps, List.filterMap, List.getElem?_toArray, List.getElem?_cons_zero, List.getElem?_cons_succ]); (repeat (go_big_quiet_step (fail))); refine wpQuiet_nil ?_)
          refine RZ.single 11 rfl (by kernel_rfl) (by omega) ?_
          intro K hK
          go_wp2_with fail
          refine hK _ _ (bw_alloc hb3) ?_
          clear hK
          refine RZ.chunk (f := 2) [12] (by kernel_rfl) ?_
          ((simp only [pickOps, List.filterMap, List.getElem?_toArray, List.getElem?_cons_zero, List.getElem?_cons_succ]); (repeat (go_big_quiet_step (fail))); refine wpQuiet_nil ?_)
          refine RZ.single 13 rfl (by kernel_rfl) (by omega) ?_
          intro K hK
          go_wp2_with fail
          refine hK _ _ (bw_alloc hb3) ?_
          clear hK
          refine RZ.chunk (f := 0) [14] (by kernel_rfl) ?_
          ((simp only [pickOps, List.filterMap, List.getElem?_toArray, List.getElem?_cons_zero, List.getElem?_cons_succ]); (repeat (go_big_quiet_step (fail))); refine wpQuiet_nil ?_)
          (refine RZ.done (by kernel_rfl) (by kernel_rfl) ?_)
          go_wp2_with fail
          go_meet
          exact ⟨nm, ok, rfl, rfl, HTG, bw_alloc hb3'⟩
        · intro K hK
          go_wp2_with fail
          refine hK _ _ (bw_alloc (Below.refl _ _)) ?_
          clear hK
          generalize hW : World.drew (World.alloc _ _) = W2
          have hbz : Below wr.drew.heap.size wr.drew W2 := by rw [← hW]; exact bw_alloc (Below.refl _ _)
          have hbz2 : Below wr.heap.size wr W2 := below_step (Below.refl _ _).drew hbz
          have byz : Box W2 wr.heap.size [.string ByteArray.empty, .bool false, .slice none 0 0, .string ByteArray.empty] 36 := by rw [← hW]; exact (Box.new _ _ _).drew
          clear hW
          refine RZ.single 6 rfl (by kernel_rfl) (by omega) ?_
          intro K hK
          go_wp2_with fail
          refine (HLK.out _ (below_step hbw hbz2)).mono ?_
          rintro e w3 ⟨hR, hb3⟩
          obtain ⟨nm, g, AP, cP, ok, rfl, hK3⟩ := hR.ok hlk.out
          have HTG := Lib.hid (tgt_ok hK3)
          have hb7 := below_step hbz hb3
          have hb7' : Below wr.heap.size wr w3 := below_step hbz2 hb3
          have by6 := byz.mono hb3
          clear hR hK3
          go_wp2_with fail
          refine hK _ _ hb7 ?_
          clear hK
          refine RZ.chunk (f := 3) [7, 8, 9, 10] (by kernel_rfl) ?_
          ((simp only [pickOps, List.filterMap, List.getElem?_toArray, List.getElem?_cons_zero, List.getElem?_cons_succ]); (repeat (go_big_quiet_step (fail))); refine wpQuiet_nil ?_)
          refine RZ.chunk (f := 2) [12] (by kernel_rfl) ?_
          ((simp only [pickOps, List.filterMap, List.getElem?_toArray, List.getElem?_cons_zero, List.getElem?_cons_succ]); (repeat (go_big_quiet_step (fail))); refine wpQuiet_nil ?_)
          have yl6 := by6.lt
          have yf := fun i => by6.free i
          have y0 := by6.cell 0 rfl
          have y1 := by6.cell 1 rfl
          have y2 := by6.cell 2 rfl
          have y3 := by6.cell 3 rfl
          obtain ⟨by9, hg9⟩ := by6.store4 (.string g.name) (.bool g.static) (.slice AP g.params.length cP) (.string g.result)
          have hb9 := hb7'.grown hg9 hb7'.size (fun k hk => by injection hk with hk; omega)
          have hb9d := hb7.grown hg9 hb7.size (fun k hk => by injection hk with hk; have : wr.drew.heap.size = wr.heap.size := rfl; omega)
          refine RZ.single 13 rfl (by kernel_rfl) (by omega) ?_
          intro K hK
          go_wp2_with fail
          refine hK _ _ hb9d ?_
          clear hK
          refine RZ.chunk (f := 0) [14] (by kernel_rfl) ?_
          ((simp only [pickOps, List.filterMap, List.getElem?_toArray, List.getElem?_cons_zero, List.getElem?_cons_succ]); (repeat (go_big_quiet_step (fail))); refine wpQuiet_nil ?_)
          (refine RZ.done (by kernel_rfl) (by kernel_rfl) ?_)
          go_wp2_with fail
          go_meet
          exact ⟨nm, ok, rfl, rfl, HTG, hb9⟩
      case rest =>
      obtain ⟨nm, ok, rfl, rfl, HTG, hq3⟩ := hcut
      have hbw3 := below_step hbw hq3
      have hbr3 := below_step hbr hq3
      have ho3 := ho.mono hq3
      have hsL3 := hsL.mono hq3
      clear h0 hlh n0 ho hsL
      cases ok with
      | false =>
        have HN2 : Hid (tgL cs m N (k + 1) = tgL cs m N k) := by show _ = _; rw [HS.out, HTG.out]; simp
        go_wp2_with fail
        go_roundw
        case rel => exact ⟨k + 1, by omega, by go_num, by rw [HN2.out, ← HL.out]; exact ho3, hbr3⟩
        case measure => simp [intOf]; omega
      | true =>
        have HY2 : Hid (tgL cs m N (k + 1) = tgL cs m N k ++ [nm]) := by show _ = _; rw [HS.out, HTG.out]; rfl
        have hnew : putAllS (tgL cs m N (k + 1)) = putS L nm := by rw [HY2.out, putAllS_snoc, ← HL.out]
        replace hnew := Lib.hid hnew
        go_wp2_with fail
        refine (refPut_any AL cL L nm _ (by omega) hcL hsL3).mono ?_
        rintro e w4 ⟨hR, hq4⟩
        rcases hR with ⟨v, rfl, hov⟩ | ⟨rfl, hr⟩
        · have hov2 := hov.base_le' (base' := w.heap.size) hbw3.size
          go_wp2_with fail
          go_roundw
          case rel => exact ⟨k + 1, by omega, by go_num, by rw [hnew.out]; exact hov2, below_step hbr3 hq4⟩
          case measure => simp [intOf]; omega
        · have HR := Lib.hid hr
          clear hr
          go_wp2_with fail
          go_roundw
          case rel => exact ⟨k + 1, by omega, by go_num, by rw [hnew.out, HR.out]; exact ho3.mono hq4, below_step hbr3 hq4⟩
          case measure => simp [intOf]; omega
    · have hke : k = N.length := by omega
      have HE : Hid (tgL cs m N k = tgL cs m N N.length) := by show _ = _; rw [hke]
      clear hke
      go_wp2_with fail
      go_ret
      exact ⟨⟨_, rfl, by rw [← HE.out]; exact ho⟩, hbw⟩
end Go.Proofs.YtmhdambkchlilaaGreatDoor
namespace Go.Proofs.YtmhdambkchlilaaGreatDoor
open Go.RowKit
set_option linter.unusedVariables false

/-- What Dispatch returns. -/
def dispI (cs : List Cls) (fs : List Fun) (l m : ByteArray) : Int := match sgAt cs (lookS cs l m) with
  | none => -1
  | some g => if g.static then -1 else findU fs (nmAt cs (lookS cs l m).1) m
theorem disp_ok {cs : List Cls} {fs : List Fun} {l m : ByteArray} {w' : World} {nm : ByteArray} {g : Sg} {A : Option Addr} {c : Nat} {ok : Bool} (h : LokR cs (lookS cs l m) w' nm g A c ok) : dispI cs fs l m = if (ok && !g.static) = true then findU fs nm m else -1 := by
  unfold dispI
  cases ok with
  | false => rw [h.no rfl]; rfl
  | true =>
    obtain ⟨h1, h2⟩ := h.yes rfl
    rw [h1, h2]
    show (if g.static = true then (-1 : Int) else _) = _
    cases g.static with
    | true => rfl
    | false => rfl
theorem disp_pf {cs : List Cls} {fs : List Fun} {s m l : ByteArray} (hl : l ∈ subsR cs s) (h0 : 0 ≤ dispI cs fs l m) : dispI cs fs l m ∈ pfI fs m (targetsL cs s m) := by
  have hb := lookL_bd (cs := cs) (m := m) (chR_bd (fnd_bd cs l).2).1
  unfold dispI at h0 ⊢
  rcases hb with h1 | ⟨j, k, hj, hk, h1, _, _⟩
  · have h1' : lookS cs l m = (-1, -1) := h1
    rw [h1'] at h0
    exact absurd h0 (show ¬ (0 : Int) ≤ -1 by decide)
  · have h1' : lookS cs l m = ((j : Int), (k : Int)) := h1
    have hok : 0 ≤ (lookS cs l m).1 := by rw [h1']; show (0 : Int) ≤ (j : Int); omega
    cases hs : sgAt cs (lookS cs l m) with
    | none => rw [hs] at h0; exact absurd h0 (show ¬ (0 : Int) ≤ -1 by decide)
    | some g =>
      rw [hs] at h0
      have h0' : 0 ≤ (if g.static = true then (-1 : Int) else findU fs (nmAt cs (lookS cs l m).1) m) := h0
      cases hg : g.static with
      | true => rw [hg, if_pos rfl] at h0'; exact absurd h0' (by decide)
      | false =>
        rw [hg, if_neg (by simp)] at h0'
        show (if g.static = true then (-1 : Int) else findU fs (nmAt cs (lookS cs l m).1) m) ∈ _
        rw [hg, if_neg (by simp)]
        exact pf_has hl hok h0'
set_option maxRecDepth 100000 in
set_option maxHeartbeats 2000000 in
theorem refDisp_any (u : Unt) (A0 A1 : Option Addr) (c0 c1 : Nat) (l m : ByteArray) (w : World) (hl : u.classes.length ≤ 8796093022208) (hs : Sl Lay.cls w A0 u.classes) (hlk : Hid (LensOk u.classes)) (hfl : u.funcs.length ≤ 8796093022208) (hf : Sl Lay.fun w A1 u.funcs) :
    Calls Tryz.prog 14 #[.agg #[.slice A0 u.classes.length c0, .slice A1 u.funcs.length c1, .int .i64 u.main], .string l, .string m] w fun e w' => e = .returned (.int .i64 (dispI u.classes u.funcs l m)) ∧ Below w.heap.size w w' := by
  obtain ⟨r, HR⟩ : ∃ r, Hid (r = dispI u.classes u.funcs l m) := ⟨_, Lib.hid rfl⟩
  rw [← HR.out]
  go_enter Tryz.func14, Tryz.ntmps14
  go_upto_region 1 with fail
  generalize hW : World.alloc _ _ = W1 at *
  have hb1 : Below w.heap.size w W1 := by rw [← hW]; exact (by repeat (first | assumption | exact Below.refl _ _ | apply bw_alloc | apply bw_drew | apply bw_drewN | apply bw_later | apply bw_step))
  have bu : Box W1 w.heap.size [.slice A0 u.classes.length c0, .slice A1 u.funcs.length c1, .int .i64 u.main] 32 := by rw [← hW]; exact Box.new _ _ _
  clear hW
  have u0 := bu.cell 0 rfl
  have ul := bu.lt
  go_wp2_with fail
  refine (refLookup_g A0 c0 u.classes l m _ hl (hs.mono hb1) hlk).mono ?_
  rintro e w2 ⟨hR, hq2⟩
  have hb2 := below_step hb1 hq2
  have bu2 := bu.mono hq2
  obtain ⟨nm, g, AP, cP, ok, rfl, hK⟩ := hR.ok hlk.out
  have HD := Lib.hid (disp_ok (fs := u.funcs) hK)
  clear u0 ul bu hR hK hq2
  go_upto_region 2 with fail
  generalize hW : World.alloc _ _ = W3 at *
  have h23 : Below w2.heap.size w2 W3 := by rw [← hW]; exact bw_alloc (Below.refl _ _)
  have bs : Box W3 w2.heap.size [.string g.name, .bool g.static, .slice AP g.params.length cP, .string g.result] 36 := by rw [← hW]; exact Box.new _ _ _
  clear hW
  have hb3 := below_step hb2 h23
  have bu3 := bu2.mono h23
  have s1 := bs.cell 1 rfl
  have sl := bs.lt
  clear h23 bu2
  cases ok with
  | false =>
    have HB : Hid (r = -1) := by show r = -1; rw [HR.out, HD.out]; rfl
    go_wp2_with fail
    go_ret
    exact ⟨by rw [HB.out]; rfl, hb3⟩
  | true =>
  cases hst : g.static with
  | true =>
    rw [hst] at s1
    have HB : Hid (r = -1) := by show r = -1; rw [HR.out, HD.out, hst]; rfl
    go_wp2_with fail
    go_ret
    exact ⟨by rw [HB.out]; rfl, hb3⟩
  | false =>
    rw [hst] at s1
    have HB : Hid (r = findU u.funcs nm m) := by show r = _; rw [HR.out, HD.out, hst]; rfl
    have u0 := bu3.cell 0 rfl
    have u1 := bu3.cell 1 rfl
    have u2 := bu3.cell 2 rfl
    have ul := bu3.lt
    go_wp2_with fail
    refine (ref13Find_any A0 A1 u.classes.length c0 c1 u.main u.funcs nm m _ (by omega) (hf.mono hb3)).mono ?_
    rintro e w4 ⟨rfl, hq4⟩
    go_wp2_with fail
    go_ret
    exact ⟨by rw [HB.out]; rfl, below_step hb3 hq4⟩

theorem foundL_succ {fs : List Fun} {m : ByteArray} {N : List ByteArray} {k : Nat} (hk : k < N.length) : foundL fs m (N.take (k + 1)) = foundL fs m (N.take k) ++ (if 0 ≤ findU fs N[k] m then [findU fs N[k] m] else []) := by
  unfold foundL
  rw [List.take_succ_eq_append_getElem hk, List.map_append, List.filter_append]
  by_cases h : 0 ≤ findU fs N[k] m <;> simp [h]
theorem foundL_len (fs : List Fun) (m : ByteArray) (N : List ByteArray) : (foundL fs m N).length ≤ N.length := by
  unfold foundL
  refine Nat.le_trans (List.length_filter_le _ _) ?_
  rw [List.length_map]
  exact Nat.le_refl _
theorem findU_bd (fs : List Fun) (c m : ByteArray) : -1 ≤ findU fs c m ∧ findU fs c m < fs.length := idxI_ge _ _
set_option maxRecDepth 100000 in
set_option maxHeartbeats 2000000 in
theorem polFuncs_any (u : Unt) (A0 A1 A5 : Option Addr) (c0 c1 n5 c5 : Nat) (kd rt pn : Int) (s m tg : ByteArray) (st : Bool) (w : World) (hl : u.classes.length ≤ 8796093022208) (hcc : u.classes.length ≤ c0) (hs : Sl Lay.cls w A0 u.classes) (hok : Hid (NamesOk u.classes)) (hlk : Hid (LensOk u.classes)) (hfl : u.funcs.length ≤ 8796093022208) (hf : Sl Lay.fun w A1 u.funcs) (hso : okStr s) :
    Calls Tryz.prog 30 #[.agg #[.slice A0 u.classes.length c0, .slice A1 u.funcs.length c1, .int .i64 u.main], .agg #[.int .i64 kd, .string s, .string m, .int .i64 rt, .int .i64 pn, .slice A5 n5 c5, .bool st, .string tg]] w fun e w' => (∃ v, e = .returned v ∧ Own cellsInt 1 w.heap.size 3 w' v (pfI u.funcs m (targetsL u.classes s m))) ∧ Below w.heap.size w w' := by
  have hTl := targetsL_len u.classes s m
  have HTG := Lib.hid (fun (W : World) (h : Below w.heap.size w W) => targets_any A0 c0 u.classes s m W hl hcc (hs.mono h) hok hlk hso)
  generalize targetsL u.classes s m = N at *
  have HP : Hid (pfI u.funcs m N = Lib.compact (sortI (foundL u.funcs m N))) := rfl
  go_enter Tryz.func30, Tryz.ntmps30
  go_upto_region 1 with fail
  generalize hW : World.alloc _ _ = W1 at *
  have hb1 : Below w.heap.size w W1 := by rw [← hW]; exact (by repeat (first | assumption | exact Below.refl _ _ | apply bw_alloc | apply bw_drew | apply bw_drewN | apply bw_later | apply bw_step))
  have bu : Box W1 w.heap.size [.slice A0 u.classes.length c0, .slice A1 u.funcs.length c1, .int .i64 u.main] 32 := by rw [← hW]; exact (Box.new _ _ _).alloc _
  have br : Box W1 (w.heap.size + 1) [.int .i64 kd, .string s, .string m, .int .i64 rt, .int .i64 pn, .slice A5 n5 c5, .bool st, .string tg] 82 := by rw [← hW]; exact Box.at (by simp)
  clear hW
  have u0 := bu.cell 0 rfl
  have ul := bu.lt
  have r1 := br.cell 1 rfl
  have r2 := br.cell 2 rfl
  have rl := br.lt
  go_wp2_with fail
  refine (HTG.out _ hb1).mono ?_
  rintro e w2 ⟨⟨v2, rfl, ho2⟩, hq2⟩
  have hb2 := below_step hb1 hq2
  have bu2 := bu.mono hq2
  have br2 := br.mono hq2
  obtain ⟨AN, cN, rfl, hcN, hsN⟩ := StrsV.of_own ho2
  clear u0 ul r1 r2 rl bu br HTG hq2 ho2
  go_wp2_with fail
  go_loopw [5, 17] (fun v i wr => ∃ k : Nat, k ≤ N.length ∧ i = .int .i64 k ∧ Own cellsInt 1 w2.heap.size 3 wr v (foundL u.funcs m (N.take k)) ∧ Below w2.heap.size w2 wr) (fun _ i _ => N.length - (intOf i).toNat)
  case atStart => exact ⟨0, Nat.zero_le _, rfl, Own.nil, Below.refl _ _⟩
  case round =>
    obtain ⟨k, hk, rfl, ho, hbr⟩ := hrel
    have hbw := below_step hb2 hbr
    have bur := bu2.mono hbr
    have brr := br2.mono hbr
    have hfk := foundL_len u.funcs m (N.take k)
    have htk : (N.take k).length = k := by rw [List.length_take]; omega
    rw [htk] at hfk
    by_cases hlt : k < N.length
    · have HS := Lib.hid (foundL_succ (fs := u.funcs) (m := m) hlt)
      have hfb := findU_bd u.funcs N[k] m
      obtain ⟨bN, oN, rfl, hbN, n0⟩ := (hsN.mono hbr).str_at hlt
      have HF := Lib.hid (fun (W : World) (h : Below w.heap.size w W) => irFind_any A0 A1 u.classes.length c0 c1 u.main u.funcs N[k] m W (by omega) (hf.mono h))
      obtain ⟨L, HL⟩ : ∃ L, Hid (L = foundL u.funcs m (N.take k)) := ⟨_, Lib.hid rfl⟩
      rw [← HL.out] at ho hfk HS
      have u0 := bur.cell 0 rfl
      have u1 := bur.cell 1 rfl
      have u2 := bur.cell 2 rfl
      have ul := bur.lt
      have r2 := brr.cell 2 rfl
      have rl := brr.lt
      generalize findU u.funcs N[k] m = fi at *
      clear htk
      go_wp2_with fail
      refine (HF.out _ hbw).mono ?_
      rintro e w3 ⟨rfl, hq3⟩
      have hbw3 := below_step hbw hq3
      have hbr3 := below_step hbr hq3
      have ho3 := ho.mono hq3
      have hz3 := (brr.mono hq3).lt
      clear u0 u1 u2 ul r2 rl ho
      by_cases h0 : 0 ≤ fi
      · have HN2 : Hid (foundL u.funcs m (N.take (k + 1)) = L ++ [fi]) := by show _ = _; rw [HS.out, if_pos h0]
        obtain ⟨AL, nL, cL, rfl⟩ := ho3.isSl
        go_wp2_with (at_builtin; refine wpList_pushG intsTy cellsInt_ok rfl (.tmp 28) (.tmp 30) rfl w2.heap.size _ _ rfl (Own.alloc ho3 _) fi _ _ rfl (cells_one_new _ _ _) (by simp [maxLen]; omega) (by omega) ?_ ?_; (have := hbr3.size; simp; omega); intro v4 w4 ho4 hc4 hg4; have hbz : Below w2.heap.size w2 w4 := (bw_alloc hbr3).trans hc4; obtain ⟨AM, nM, cM, rfl⟩ := ho4.isSl)
        go_roundw
        case rel => exact ⟨k + 1, by omega, by go_num, by rw [HN2.out]; exact ho4, hbz⟩
        case measure => simp [intOf]; omega
      · have HN2 : Hid (foundL u.funcs m (N.take (k + 1)) = L) := by show _ = _; rw [HS.out, if_neg h0, List.append_nil]
        obtain ⟨AL, nL, cL, rfl⟩ := ho3.isSl
        go_wp2_with fail
        go_roundw
        case rel => exact ⟨k + 1, by omega, by go_num, by rw [HN2.out]; exact ho3, hbr3⟩
        case measure => simp [intOf]; omega
    · have hke : k = N.length := by omega
      have HE : Hid (foundL u.funcs m (N.take k) = foundL u.funcs m N) := by show _ = _; rw [hke, List.take_length]
      rw [HE.out] at ho
      clear hke HE htk
      obtain ⟨AL, nL, cL, rfl⟩ := ho.isSl
      have hlen := foundL_len u.funcs m N
      generalize foundL u.funcs m N = L at *
      go_wp2_with fail
      refine (sortInts_ownG _ L w2.heap.size _ ho (by omega)).mono ?_
      rintro e w3 ⟨rfl, ho3, hg3⟩
      go_wp2_with fail
      refine (compactInts_ownG _ (sortI L) w2.heap.size _ ho3 (by rw [sortI_len]; omega)).mono ?_
      rintro e w4 ⟨⟨v4, rfl, ho4⟩, hg4⟩
      go_wp2_with fail
      go_ret
      have hbx3 := hbw.grown hg3 hbw.size (fun k hk => by have := (World.ownsRow.lt ho k hk).1; have := hb2.size; omega)
      have hbx4 := hbx3.grown hg4 hbx3.size (fun k hk => by have := (World.ownsRow.lt ho3 k hk).1; have := hb2.size; omega)
      exact ⟨⟨_, rfl, by rw [HP.out]; exact ho4.weaken hb2.size⟩, hbx4⟩
end Go.Proofs.YtmhdambkchlilaaGreatDoor
namespace Go.Proofs.YtmhdambkchlilaaGreatDoor
open Go.RowKit
set_option linter.unusedVariables false

theorem atR_le1 {fs : List Fun} {m : ByteArray} {l : List ByteArray} (h : l.Nodup) (i : Nat) : (atR fs m l i).length ≤ 1 := by
  unfold atR
  rw [List.length_map]
  have hn := h.filter (fun c => decide (findU fs c m = i))
  generalize hq : (l.filter fun c => decide (findU fs c m = i)) = q at hn ⊢
  match q, hn, hq with
  | [], _, _ => simp
  | [a], _, _ => simp
  | a :: b :: r, hn, hq =>
    exfalso
    have ha : a ∈ l.filter fun c => decide (findU fs c m = i) := by rw [hq]; simp
    have hb : b ∈ l.filter fun c => decide (findU fs c m = i) := by rw [hq]; simp
    rw [List.mem_filter, decide_eq_true_eq] at ha hb
    obtain ⟨_, e1⟩ := findU_cls ha.2
    obtain ⟨_, e2⟩ := findU_cls hb.2
    rw [List.pairwise_cons] at hn
    exact hn.1 b (by simp) (by rw [← e1, e2])
/-- The answer's list up to function i. -/
def pfRi (fs : List Fun) (m : ByteArray) (l : List ByteArray) (i : Nat) : List Int := (List.range i).flatMap (atR fs m l)
theorem pfRi_succ (fs : List Fun) (m : ByteArray) (l : List ByteArray) (i : Nat) : pfRi fs m l (i + 1) = pfRi fs m l i ++ atR fs m l i := by
  unfold pfRi
  rw [List.range_succ, List.flatMap_append]
  simp
theorem pfRi_len {fs : List Fun} {m : ByteArray} {l : List ByteArray} (h : l.Nodup) : ∀ i, (pfRi fs m l i).length ≤ i
  | 0 => by simp [pfRi]
  | i + 1 => by
    rw [pfRi_succ, List.length_append]
    have := pfRi_len (fs := fs) (m := m) h i
    have := atR_le1 (fs := fs) (m := m) h i
    omega
theorem atR_succ {fs : List Fun} {m : ByteArray} {N : List ByteArray} {k : Nat} (hk : k < N.length) (i : Nat) : atR fs m (N.take (k + 1)) i = atR fs m (N.take k) i ++ (if findU fs N[k] m = i then [(i : Int)] else []) := by
  unfold atR
  rw [List.take_succ_eq_append_getElem hk, List.filter_append, List.map_append]
  by_cases h : findU fs N[k] m = i <;> simp [h]
theorem ref13Ints_any (A B : Option Addr) (cA cB : Nat) (l m : List Int) (w : World) (hl : l.length ≤ 17592186044416) (hm : m.length ≤ 17592186044416) (hs : Sl Lay.int w A l) (ht : Sl Lay.int w B m) :
    Calls Tryz.prog 31 #[.slice A l.length cA, .slice B m.length cB] w fun e w' => e = .returned (.bool (eqv l m)) ∧ Below w.heap.size w w' := by
  go_enter Tryz.func31, Tryz.ntmps31
  go_wp2_with fail
  refine (refInts_any A B cA cB l m _ hl hm hs ht).mono ?_
  rintro e w1 ⟨rfl, hb1⟩
  go_wp2_with fail
  go_ret
  exact ⟨rfl, hb1⟩
set_option maxRecDepth 100000 in
set_option maxHeartbeats 3000000 in
theorem refFuncs_any (u : Unt) (A0 A1 A5 : Option Addr) (c0 c1 n5 c5 : Nat) (kd rt pn : Int) (s m tg : ByteArray) (st : Bool) (w : World) (hl : u.classes.length ≤ 8796093022208) (hs : Sl Lay.cls w A0 u.classes) (hlk : Hid (LensOk u.classes)) (hfl : u.funcs.length ≤ 8796093022208) (hf : Sl Lay.fun w A1 u.funcs) :
    Calls Tryz.prog 32 #[.agg #[.slice A0 u.classes.length c0, .slice A1 u.funcs.length c1, .int .i64 u.main], .agg #[.int .i64 kd, .string s, .string m, .int .i64 rt, .int .i64 pn, .slice A5 n5 c5, .bool st, .string tg]] w fun e w' => (∃ v, e = .returned v ∧ Own cellsInt 1 w.heap.size 3 w' v (pfR u.funcs m (targetsR u.classes s m))) ∧ Below w.heap.size w w' := by
  have hTl : (targetsR u.classes s m).length ≤ u.classes.length := by rw [targetsR_eq]; exact targetsL_len _ _ _
  have hND : (targetsR u.classes s m).Nodup := by unfold targetsR; rw [putAllS_eq]; exact AscS.nodup (ascS_spec _).1
  have HTG := Lib.hid (fun (W : World) (h : Below w.heap.size w W) => refTargets_g A0 c0 u.classes s m W hl (hs.mono h) hlk)
  generalize targetsR u.classes s m = N at *
  have HP : Hid (pfR u.funcs m N = pfRi u.funcs m N u.funcs.length) := rfl
  rw [HP.out]
  clear HP
  replace hND := Lib.hid hND
  go_enter Tryz.func32, Tryz.ntmps32
  go_upto_region 1 with fail
  generalize hW : World.alloc _ _ = W1 at *
  have hb1 : Below w.heap.size w W1 := by rw [← hW]; exact (by repeat (first | assumption | exact Below.refl _ _ | apply bw_alloc | apply bw_drew | apply bw_drewN | apply bw_later | apply bw_step))
  have bu : Box W1 w.heap.size [.slice A0 u.classes.length c0, .slice A1 u.funcs.length c1, .int .i64 u.main] 32 := by rw [← hW]; exact (Box.new _ _ _).alloc _
  have br : Box W1 (w.heap.size + 1) [.int .i64 kd, .string s, .string m, .int .i64 rt, .int .i64 pn, .slice A5 n5 c5, .bool st, .string tg] 82 := by rw [← hW]; exact Box.at (by simp)
  clear hW
  have u0 := bu.cell 0 rfl
  have ul := bu.lt
  have r1 := br.cell 1 rfl
  have r2 := br.cell 2 rfl
  have rl := br.lt
  go_wp2_with fail
  refine (HTG.out _ hb1).mono ?_
  rintro e w2 ⟨⟨v2, rfl, ho2⟩, hq2⟩
  have hb2 := below_step hb1 hq2
  have bu2 := bu.mono hq2
  have br2 := br.mono hq2
  obtain ⟨AN, cN, rfl, hcN, hsN⟩ := StrsV.of_own ho2
  clear u0 ul r1 r2 rl bu br HTG hq2 ho2
  go_wp2_with fail
  go_loopw [6, 7] (fun v i wr => ∃ j : Nat, j ≤ u.funcs.length ∧ i = .int .i64 j ∧ Own cellsInt 1 w2.heap.size 3 wr v (pfRi u.funcs m N j) ∧ Below w2.heap.size w2 wr) (fun _ i _ => u.funcs.length - (intOf i).toNat)
  case atStart => exact ⟨0, Nat.zero_le _, rfl, Own.nil, Below.refl _ _⟩
  case round =>
    obtain ⟨j, hj, rfl, ho, hbr⟩ := hrel
    have hbw := below_step hb2 hbr
    have bur := bu2.mono hbr
    have brr := br2.mono hbr
    have hpl := pfRi_len (fs := u.funcs) (m := m) hND.out j
    have u1 := bur.cell 1 rfl
    have ul := bur.lt
    by_cases hlt : j < u.funcs.length
    · have HS := Lib.hid (pfRi_succ u.funcs m N j)
      obtain ⟨L, HL⟩ : ∃ L, Hid (L = pfRi u.funcs m N j) := ⟨_, Lib.hid rfl⟩
      rw [← HL.out] at ho hpl HS
      obtain ⟨wo, hwo⟩ : ∃ wo : World, wo = wr := ⟨_, rfl⟩
      subst hwo
      go_wp2_with fail
      clear u1 ul
      go_loopw [6, 8] (fun v i wz => ∃ k : Nat, k ≤ N.length ∧ i = .int .i64 k ∧ Own cellsInt 1 w2.heap.size 3 wz v (L ++ atR u.funcs m (N.take k) j) ∧ Below w2.heap.size w2 wz) (fun _ i _ => N.length - (intOf i).toNat)
      case atStart => exact ⟨0, Nat.zero_le _, rfl, by simpa [atR] using ho, hbr⟩
      case round =>
        clear ho
        obtain ⟨k, hk, rfl, ho, hbz⟩ := hrel
        have hbwz := below_step hb2 hbz
        have buz := bu2.mono hbz
        have brz := br2.mono hbz
        have ha1 := atR_le1 (fs := u.funcs) (m := m) (List.Nodup.sublist (List.take_sublist k N) hND.out) j
        by_cases hkt : k < N.length
        · have HA := Lib.hid (atR_succ (fs := u.funcs) (m := m) hkt j)
          obtain ⟨bN, oN, rfl, hbN, n0⟩ := (hsN.mono hbz).str_at hkt
          have HF := Lib.hid (fun (W : World) (h : Below w.heap.size w W) => ref13Find_any A0 A1 u.classes.length c0 c1 u.main u.funcs N[k] m W (by omega) (hf.mono h))
          have u0 := buz.cell 0 rfl
          have u1 := buz.cell 1 rfl
          have u2 := buz.cell 2 rfl
          have ul := buz.lt
          have r2 := brz.cell 2 rfl
          have rl := brz.lt
          have HC : Hid (∀ y : Later wr, Calls Tryz.prog 40 #[.agg #[.slice A0 u.classes.length c0, .slice A1 u.funcs.length c1, .int .i64 u.main], .string N[k], .string m] y.W fun e w' => e = .returned (.int .i64 (findU u.funcs N[k] m)) ∧ Below y.W.heap.size y.W w') := fun y => HF.out _ (below_step hbwz y.h)
          generalize findU u.funcs N[k] m = fi at *
          obtain ⟨Q, HQ⟩ : ∃ Q, Hid (Q = L ++ atR u.funcs m (N.take k) j) := ⟨_, Lib.hid rfl⟩
          have hQl : Q.length ≤ j + 1 := by rw [HQ.out, List.length_append]; omega
          have HA2 : Hid (L ++ atR u.funcs m (N.take (k + 1)) j = Q ++ (if fi = j then [(j : Int)] else [])) := by show _ = _; rw [HA.out, HQ.out, List.append_assoc]
          rw [← HQ.out] at ho
          obtain ⟨AQ, nQ, cQ, rfl⟩ := ho.isSl
          clear HA ha1
          go_upto_region 9 with fail
          refine wp_region_later (by kernel_rfl) (by kernel_rfl) ?_
          repeat (go_big_quiet_step ((go_at_call 40; with_reducible exact Calls.later (HC.out _))))
          refine wpQuiet_nil ?_
          rintro _ ⟨y, rfl⟩
          have hbz3 := below_step hbz y.h
          have ho3 := ho.mono y.h
          have hz3 := (brz.mono y.h).lt
          obtain ⟨W3, hW3⟩ : ∃ W3, W3 = y.W := ⟨_, rfl⟩
          rw [← hW3] at hbz3 ho3 hz3 ⊢
          clear hW3 HC u0 u1 u2 ul r2 rl ho n0
          by_cases hfi : fi = j
          · have t1 : (fi == (j : Int)) = true := by rw [hfi]; simp
            have HN2 : Hid (L ++ atR u.funcs m (N.take (k + 1)) j = Q ++ [(j : Int)]) := by show _ = _; rw [HA2.out, if_pos hfi]
            clear hfi
            go_wp2_with (at_builtin; refine wpList_pushG intsTy cellsInt_ok rfl (.tmp 39) (.tmp 41) rfl w2.heap.size _ _ rfl (Own.alloc ho3 _) (j : Int) _ _ rfl (cells_one_new _ _ _) (by simp [maxLen]; omega) (by omega) ?_ ?_; (have := hbz3.size; simp; omega); intro v4 w4 ho4 hc4 hg4; have hbz4 : Below w2.heap.size w2 w4 := (bw_alloc hbz3).trans hc4; obtain ⟨AM, nM, cM, rfl⟩ := ho4.isSl)
            go_roundw
            case rel => exact ⟨k + 1, by omega, by go_num, by rw [HN2.out]; exact ho4, hbz4⟩
            case measure => simp [intOf]; omega
          · have t1 : (fi == (j : Int)) = false := by rw [beq_eq_false_iff_ne]; exact hfi
            have HN2 : Hid (L ++ atR u.funcs m (N.take (k + 1)) j = Q) := by show _ = _; rw [HA2.out, if_neg hfi, List.append_nil]
            clear hfi
            go_wp2_with fail
            go_roundw
            case rel => exact ⟨k + 1, by omega, by go_num, by rw [HN2.out]; exact ho3, hbz3⟩
            case measure => simp [intOf]; omega
        · have hke : k = N.length := by omega
          have HN2 : Hid (L ++ atR u.funcs m (N.take k) j = pfRi u.funcs m N (j + 1)) := by show _ = _; rw [HS.out, hke, List.take_length]
          rw [HN2.out] at ho
          obtain ⟨AQ, nQ, cQ, rfl⟩ := ho.isSl
          clear hke HN2 ha1
          go_wp2_with fail
          go_roundw
          case rel => exact ⟨j + 1, by omega, by go_num, ho, hbz⟩
          case measure => simp [intOf]; omega
    · have hje : j = u.funcs.length := by omega
      have HE : Hid (pfRi u.funcs m N j = pfRi u.funcs m N u.funcs.length) := by show _ = _; rw [hje]
      rw [HE.out] at ho
      obtain ⟨AQ, nQ, cQ, rfl⟩ := ho.isSl
      clear hje HE
      go_wp2_with fail
      go_ret
      exact ⟨⟨_, rfl, ho.weaken hb2.size⟩, hbw⟩
end Go.Proofs.YtmhdambkchlilaaGreatDoor
namespace Go.Proofs.YtmhdambkchlilaaGreatDoor
open Go.RowKit
set_option linter.unusedVariables false

theorem pf_same (cs : List Cls) (fs : List Fun) (s m : ByteArray) : pfR fs m (targetsR cs s m) = pfI fs m (targetsL cs s m) := by
  rw [pfR_eq (by unfold targetsR; rw [putAllS_eq]; exact (ascS_spec _).1), targetsR_eq]
theorem pfI_len (cs : List Cls) (fs : List Fun) (s m : ByteArray) : (pfI fs m (targetsL cs s m)).length ≤ cs.length := by
  unfold pfI
  exact Nat.le_trans (ascI_len _) (Nat.le_trans (foundL_len _ _ _) (targetsL_len _ _ _))
set_option maxRecDepth 100000 in
set_option maxHeartbeats 4000000 in
theorem walk_PolicyFuncs (u : Unt) (A0 A1 A5 : Option Addr) (c0 c1 n5 c5 : Nat) (kd rt pn : Int) (s m tg : ByteArray) (st : Bool) (w : World) (hg : Glob w) (H : Hid (UnR w u A0 A1 c0)) (hia : Hid (∀ f ∈ u.funcs, ∀ x ∈ f.code, x.args.length ≤ 17592186043904)) (hso : okStr s) :
    Calls Tryz.prog 9 #[.agg #[.slice A0 u.classes.length c0, .slice A1 u.funcs.length c1, .int .i64 u.main], .agg #[.int .i64 kd, .string s, .string m, .int .i64 rt, .int .i64 pn, .slice A5 n5 c5, .bool st, .string tg]] w fun e w' => e = .returned (.bool true) ∧ Below w.heap.size w w' := by
  have hul := H.out.hl
  have HP1 := Lib.hid (fun (W : World) (h : Below w.heap.size w W) => polFuncs_any u A0 A1 A5 c0 c1 n5 c5 kd rt pn s m tg st W H.out.hl H.out.hcc (H.out.hs.mono h) H.out.hok.names (Lib.hid H.out.hlk) H.out.hfl (H.out.hf.mono h) hso)
  have HP2 := Lib.hid (fun (W : World) (h : Below w.heap.size w W) => refFuncs_any u A0 A1 A5 c0 c1 n5 c5 kd rt pn s m tg st W H.out.hl (H.out.hs.mono h) (Lib.hid H.out.hlk) H.out.hfl (H.out.hf.mono h))
  rw [pf_same] at HP2
  have hPl := pfI_len u.classes u.funcs s m
  have HPF := Lib.hid (fun l (hl : l ∈ subsR u.classes s) h0 => disp_pf (fs := u.funcs) (m := m) hl h0)
  generalize pfI u.funcs m (targetsL u.classes s m) = P at *
  have hSl := subsR_len u.classes s
  have HSB := Lib.hid (fun (W : World) (h : Below w.heap.size w W) => refSubs_g A0 c0 u.classes s W H.out.hl (H.out.hs.mono h))
  generalize subsR u.classes s = N at *
  go_enter Tryz.func9, Tryz.ntmps9
  go_upto_region 1 with fail
  generalize hW : World.alloc _ _ = W1 at *
  have hb1 : Below w.heap.size w W1 := by rw [← hW]; exact (by repeat (first | assumption | exact Below.refl _ _ | apply bw_alloc | apply bw_drew | apply bw_drewN | apply bw_later | apply bw_step))
  have bu : Box W1 w.heap.size [.slice A0 u.classes.length c0, .slice A1 u.funcs.length c1, .int .i64 u.main] 32 := by rw [← hW]; exact (Box.new _ _ _).alloc _
  have br : Box W1 (w.heap.size + 1) [.int .i64 kd, .string s, .string m, .int .i64 rt, .int .i64 pn, .slice A5 n5 c5, .bool st, .string tg] 82 := by rw [← hW]; exact Box.at (by simp)
  clear hW
  have u0 := bu.cell 0 rfl
  have u1 := bu.cell 1 rfl
  have u2 := bu.cell 2 rfl
  have ul := bu.lt
  have r0 := br.cell 0 rfl
  have r1 := br.cell 1 rfl
  have r2 := br.cell 2 rfl
  have r3 := br.cell 3 rfl
  have r4 := br.cell 4 rfl
  have r5 := br.cell 5 rfl
  have r6 := br.cell 6 rfl
  have r7 := br.cell 7 rfl
  have rl := br.lt
  go_wp2_with fail
  refine (HP1.out _ hb1).mono ?_
  rintro e w2 ⟨⟨v2, rfl, ho2⟩, hq2⟩
  have hb2 := below_step hb1 hq2
  have bu2 := bu.mono hq2
  have br2 := br.mono hq2
  obtain ⟨AP, cP, rfl, hcP, hsP⟩ := IntsV.of_own ho2
  clear u0 u1 u2 ul r0 r1 r2 r3 r4 r5 r6 r7 rl HP1 ho2 bu br hq2
  have u0 := bu2.cell 0 rfl
  have u1 := bu2.cell 1 rfl
  have u2 := bu2.cell 2 rfl
  have ul := bu2.lt
  have r0 := br2.cell 0 rfl
  have r1 := br2.cell 1 rfl
  have r2 := br2.cell 2 rfl
  have r3 := br2.cell 3 rfl
  have r4 := br2.cell 4 rfl
  have r5 := br2.cell 5 rfl
  have r6 := br2.cell 6 rfl
  have r7 := br2.cell 7 rfl
  have rl := br2.lt
  go_wp2_with fail
  refine (HP2.out _ hb2).mono ?_
  rintro e w3 ⟨⟨v3, rfl, ho3⟩, hq3⟩
  have hb3 := below_step hb2 hq3
  have bu3 := bu2.mono hq3
  have br3 := br2.mono hq3
  have hsP3 := hsP.mono hq3
  obtain ⟨AQ, cQ, rfl, hcQ, hsQ⟩ := IntsV.of_own ho3
  clear u0 u1 u2 ul r0 r1 r2 r3 r4 r5 r6 r7 rl HP2 ho3 bu2 br2 hq3 hsP
  go_wp2_with fail
  refine (ref13Ints_any AP AQ cP cQ P P _ (by omega) (by omega) hsP3 hsQ).mono ?_
  rintro e w4 ⟨rfl, hq4⟩
  have hb4 := below_step hb3 hq4
  have bu4 := bu3.mono hq4
  have br4 := br3.mono hq4
  have hsP4 := hsP3.mono hq4
  rw [eqv_t rfl]
  clear hsP3 hsQ hcQ bu3 br3 hq4
  have u0 := bu4.cell 0 rfl
  have u1 := bu4.cell 1 rfl
  have u2 := bu4.cell 2 rfl
  have ul := bu4.lt
  have r0 := br4.cell 0 rfl
  have r1 := br4.cell 1 rfl
  have r2 := br4.cell 2 rfl
  have r3 := br4.cell 3 rfl
  have r4 := br4.cell 4 rfl
  have r5 := br4.cell 5 rfl
  have r6 := br4.cell 6 rfl
  have r7 := br4.cell 7 rfl
  have rl := br4.lt
  go_wp2_with fail
  refine (refCheck13_any u A0 A1 c0 c1 _ (Lib.hid (H.out.mono hb4)) hia).mono ?_
  rintro e w5 ⟨rfl, hq5⟩
  have hb5 := below_step hb4 hq5
  have bu5 := bu4.mono hq5
  have br5 := br4.mono hq5
  have hsP5 := hsP4.mono hq5
  clear u0 u1 u2 ul r0 r1 r2 r3 r4 r5 r6 r7 rl bu4 br4 hsP4 hq5
  unfold tri
  obtain ⟨ce, hce⟩ : ∃ ce, ce = (chkE u).2.2 := ⟨_, rfl⟩
  rw [← hce]
  clear hce
  by_cases he : ce = 0
  rotate_left
  · have t1 : (ce != 0) = true := by simpa using he
    clear he
    go_wp2_with fail
    refine (awake_any _ (hg.mono hb5)).mono ?_
    rintro e w6 ⟨rfl, hq6⟩
    go_wp2_with fail
    go_ret
    exact ⟨rfl, below_step hb5 hq6⟩
  have t1 : (ce != 0) = false := by rw [he]; rfl
  clear he
  have u0 := bu5.cell 0 rfl
  have u1 := bu5.cell 1 rfl
  have u2 := bu5.cell 2 rfl
  have ul := bu5.lt
  have r0 := br5.cell 0 rfl
  have r1 := br5.cell 1 rfl
  have r2 := br5.cell 2 rfl
  have r3 := br5.cell 3 rfl
  have r4 := br5.cell 4 rfl
  have r5 := br5.cell 5 rfl
  have r6 := br5.cell 6 rfl
  have r7 := br5.cell 7 rfl
  have rl := br5.lt
  go_wp2_with fail
  refine (HSB.out _ hb5).mono ?_
  rintro e w6 ⟨⟨v6, rfl, ho6⟩, hq6⟩
  have hb6 := below_step hb5 hq6
  have bu6 := bu5.mono hq6
  have br6 := br5.mono hq6
  have hsP6 := hsP5.mono hq6
  obtain ⟨AN, cN, rfl, hcN, hsN⟩ := StrsV.of_own ho6
  clear u0 u1 u2 ul r0 r1 r2 r3 r4 r5 r6 r7 rl HSB ho6 bu5 br5 hsP5 hq6 t1
  go_wp2_with fail
  go_loopw [10] (fun i wr => ∃ k : Nat, k ≤ N.length ∧ i = .int .i64 k ∧ Below w6.heap.size w6 wr) (fun i _ => N.length - (intOf i).toNat)
  case atStart => exact ⟨0, Nat.zero_le _, rfl, Below.refl _ _⟩
  case round =>
    obtain ⟨k, hk, rfl, hbr⟩ := hrel
    have hbw := below_step hb6 hbr
    by_cases hlt : k < N.length
    · have hPK := HPF.out N[k] (List.getElem_mem hlt)
      have HDS := Lib.hid (fun (W : World) (h : Below w.heap.size w W) => refDisp_any u A0 A1 c0 c1 N[k] m W H.out.hl (H.out.hs.mono h) (Lib.hid H.out.hlk) H.out.hfl (H.out.hf.mono h))
      obtain ⟨bN, oN, rfl, hbN, n0⟩ := (hsN.mono hbr).str_at hlt
      have buw := bu6.mono hbr
      have brw := br6.mono hbr
      have u0 := buw.cell 0 rfl
      have u1 := buw.cell 1 rfl
      have u2 := buw.cell 2 rfl
      have ul := buw.lt
      have r2 := brw.cell 2 rfl
      have rl := brw.lt
      have HC : Hid (∀ y : Later wr, Calls Tryz.prog 14 #[.agg #[.slice A0 u.classes.length c0, .slice A1 u.funcs.length c1, .int .i64 u.main], .string N[k], .string m] y.W fun e w' => e = .returned (.int .i64 (dispI u.classes u.funcs N[k] m)) ∧ Below y.W.heap.size y.W w') := fun y => HDS.out _ (below_step hbw y.h)
      generalize dispI u.classes u.funcs N[k] m = d at *
      have HPK : Hid (0 ≤ d → d ∈ P) := hPK
      clear hPK
      go_upto_region 11 with fail
      refine wp_region_later (by kernel_rfl) (by kernel_rfl) ?_
      repeat (go_big_quiet_step ((go_at_call 14; with_reducible exact Calls.later (HC.out _))))
      refine wpQuiet_nil ?_
      rintro _ ⟨y, rfl⟩
      have hbr3 := below_step hbr y.h
      obtain ⟨W3, hW3⟩ : ∃ W3, W3 = y.W := ⟨_, rfl⟩
      rw [← hW3] at hbr3 ⊢
      have hsP7 := hsP6.mono hbr3
      clear hW3 HC u0 u1 u2 ul r2 rl n0 buw brw HDS
      go_wp2_with fail
      go_loop [12, 13] (fun v i => ∃ (q : Nat) (b : Bool), q ≤ P.length ∧ i = .int .i64 q ∧ v = .bool b ∧ Hid (b = (decide (d < 0) || (P.take q).any (fun x => x == d)))) (fun _ i => P.length - (intOf i).toNat)
      case atStart => exact ⟨0, decide (d < 0), Nat.zero_le _, rfl, rfl, by show _ = _; simp⟩
      case round =>
        obtain ⟨q, b, hq, rfl, rfl, HB⟩ := hrel
        by_cases hqt : q < P.length
        · have HT : Hid ((P.take (q + 1)).any (fun x => x == d) = ((P.take q).any (fun x => x == d) || (P[q] == d))) := by
            show _ = _
            rw [List.take_succ_eq_append_getElem hqt, List.any_append]
            simp
          obtain ⟨bP, oP, rfl, hbP, p0⟩ := hsP7.int_at hqt
          cases b with
          | true =>
            have HB2 : Hid (true = (decide (d < 0) || (P.take (q + 1)).any (fun x => x == d))) := by show _ = _; rw [HT.out, ← Bool.or_assoc, ← HB.out]; rfl
            go_wp2_with fail
            go_round
            case rel => exact ⟨q + 1, true, by omega, by go_num, rfl, HB2⟩
            case measure => simp [intOf]; omega
          | false =>
            have HB2 : Hid ((P[q] == d) = (decide (d < 0) || (P.take (q + 1)).any (fun x => x == d))) := by show _ = _; rw [HT.out, ← Bool.or_assoc, ← HB.out]; rfl
            go_wp2_with fail
            go_round
            case rel => exact ⟨q + 1, (P[q] == d), by omega, by go_num, rfl, HB2⟩
            case measure => simp [intOf]; omega
        · have hbt : b = true := by
            have h1 := HB.out
            rw [List.take_of_length_le (by omega)] at h1
            rw [h1]
            by_cases h : d < 0
            · rw [decide_eq_true h]; rfl
            · rw [decide_eq_false h, Bool.false_or, List.any_eq_true]
              exact ⟨d, HPK.out (by omega), by simp⟩
          subst hbt
          clear HB
          go_wp2_with fail
          go_roundw
          case rel => exact ⟨k + 1, by omega, by go_num, hbr3⟩
          case measure => simp [intOf]; omega
    · go_wp2_with fail
      refine (awake_any _ (hg.mono hbw)).mono ?_
      rintro e w7 ⟨rfl, hq7⟩
      go_wp2_with fail
      go_ret
      exact ⟨rfl, below_step hbw hq7⟩
end Go.Proofs.YtmhdambkchlilaaGreatDoor
