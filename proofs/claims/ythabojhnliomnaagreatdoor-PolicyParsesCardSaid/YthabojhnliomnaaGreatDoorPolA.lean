/-
  Chapter 42: the tags of a policy.
-/
import Derived.Test.YthabojhnliomnaaGreatDoorPutS
import Derived.Test.YthabojhnliomnaaGreatDoorPolTy
import Derived.Test.YthabojhnliomnaaGreatDoorNest
import Derived.Test.YthabojhnliomnaaGreatDoorRegZ
namespace Go.Proofs.YthabojhnliomnaaGreatDoor
open Go.RowKit
set_option linter.unusedVariables false

theorem Own.isSl {α : Type} {cells : α → List Value} {size base : Nat} {e : TypeId} {w : World} {v : Value} {l : List α} (h : Own cells size base e w v l) : ∃ A n c, v = .slice A n c := by
  rcases h.2 with ⟨rfl, _⟩ | ⟨g, cap, cur, rfl, _⟩
  · exact ⟨_, _, _, rfl⟩
  · exact ⟨_, _, _, rfl⟩
theorem Own.base_le' {α : Type} {cells : α → List Value} {size base base' : Nat} {e : TypeId} {w : World} {v : Value} {l : List α} (h : Own cells size base e w v l) (hb : base' ≤ base) : Own cells size base' e w v l := by
  refine ⟨h.1, ?_⟩
  rcases h.2 with h1 | ⟨g, cap, cur, h1, h2, h3⟩
  · exact Or.inl h1
  · exact Or.inr ⟨g, cap, cur, h1, Nat.le_trans hb h2, h3⟩
/-- The tags of the sources. -/
def srcT (l : List Rul) : List ByteArray := (l.filter fun r => decide (r.kind = 1)).map (·.tag)
theorem srcT_yes {l : List Rul} {k : Nat} (h : k < l.length) (hk : l[k].kind = 1) : srcT (l.take (k + 1)) = srcT (l.take k) ++ [l[k].tag] := by
  unfold srcT
  rw [List.take_succ_eq_append_getElem h, List.filter_append, List.map_append]
  simp [hk]
theorem srcT_no {l : List Rul} {k : Nat} (h : k < l.length) (hk : ¬ l[k].kind = 1) : srcT (l.take (k + 1)) = srcT (l.take k) := by
  unfold srcT
  rw [List.take_succ_eq_append_getElem h, List.filter_append, List.map_append]
  simp [hk]
theorem srcT_len (l : List Rul) (k : Nat) : (srcT (l.take k)).length ≤ k := by
  unfold srcT
  rw [List.length_map]
  refine Nat.le_trans (List.length_filter_le _ _) ?_
  rw [List.length_take]
  omega
def RetStrs (w w' : World) (l : List ByteArray) (e : Ending) : Prop := ∃ v, e = .returned v ∧ Own cellsStr 1 w.heap.size 9 w' v l

set_option maxRecDepth 100000 in
set_option maxHeartbeats 2000000 in
theorem tags_any (A A2 : Option Addr) (c n2 c2 : Nat) (l : List Rul) (w : World) (hl : l.length ≤ 1400000000000) (hs : Sl Lay.rul w A l) :
    Calls Tryz.prog 18 #[.agg #[.slice A l.length c, .slice A2 n2 c2]] w fun e w' => RetStrs w w' (ascS (srcT l)) e ∧ Below w.heap.size w w' := by
  have hb0 : Below w.heap.size w (w.alloc (.cells #[.slice A l.length c, .slice A2 n2 c2] 25)) := (by repeat (first | assumption | exact Below.refl _ _ | apply bw_alloc | apply bw_drew | apply bw_drewN | apply bw_later | apply bw_step))
  obtain ⟨R, HR⟩ : ∃ R, Hid (R = ascS (srcT l)) := ⟨_, Lib.hid rfl⟩
  rw [← HR.out]
  go_enter Tryz.func18, Tryz.ntmps18
  go_wp2_with fail
  go_loopw [3, 9] (fun v i wr => ∃ k : Nat, k ≤ l.length ∧ i = .int .i64 k ∧ Own cellsStr 1 w.heap.size 9 wr v (srcT (l.take k)) ∧ Below w.heap.size w wr) (fun _ i _ => l.length - (intOf i).toNat)
  case atStart => exact ⟨0, Nat.zero_le _, rfl, Own.nil, hb0⟩
  case round =>
    obtain ⟨k, hk, rfl, ho, hbw⟩ := hrel
    obtain ⟨AT, nT, cT, rfl⟩ := ho.isSl
    have htl := srcT_len l k
    by_cases hlt : k < l.length
    · obtain ⟨b, o, A5, c5, rfl, hb, d0, d1, d2, d3, d4, d5, d6, d7, hc5, hs5⟩ := (hs.mono hbw).rul_at hlt
      by_cases hkd : l[k].kind = 1
      · have HS := Lib.hid (srcT_yes hlt hkd)
        rw [hkd] at d0
        clear hkd
        go_wp2_with (at_builtin; refine wpList_push strsTy cellsStr_ok rfl (.tmp 16) (.tmp 19) rfl w.heap.size _ (srcT (l.take k)) rfl ((ho.alloc _).alloc _) l[k].tag _ _ rfl (by rw [← show (World.alloc wr _).heap.size = wr.heap.size + 1 from by simp]; exact cells_one_new _ _ _) (by unfold maxLen; omega) (by omega) (by have := hbw.size; simp; omega) ?_; intro v1 w1 hown1 hb1; obtain ⟨A1, n1, q1, rfl⟩ := hown1.isSl)
        go_roundw
        case rel => exact ⟨k + 1, by omega, by go_num, by rw [HS.out]; exact hown1, (bw_alloc (bw_alloc hbw)).trans hb1⟩
        case measure => simp [intOf]; omega
      · have HS := Lib.hid (srcT_no hlt hkd)
        have e1 : (l[k].kind == 1) = false := by simpa using hkd
        clear hkd
        go_wp2_with fail
        go_roundw
        case rel => exact ⟨k + 1, by omega, by go_num, by rw [HS.out]; exact ho.alloc _, bw_alloc hbw⟩
        case measure => simp [intOf]; omega
    · obtain rfl : k = l.length := by omega
      rw [List.take_length] at ho htl
      go_wp2_with fail
      refine (sortStrings_own _ (srcT l) w.heap.size _ ho (by omega)).mono ?_
      rintro e w1 ⟨rfl, ho1, hb1⟩
      go_wp2_with fail
      refine (compactStrings_own _ (sortS (srcT l)) w.heap.size _ ho1 (by rw [sortS_len]; omega)).mono ?_
      rintro e w2 ⟨⟨v2, rfl, ho2⟩, hb2⟩
      go_wp2_with fail
      go_ret
      have hbw1 := hbw.grown hb1 hbw.size (fun k hk => (World.ownsRow.lt ho k hk).1)
      exact ⟨⟨_, rfl, by rw [HR.out]; exact ho2⟩, hbw1.grown hb2 hbw1.size (fun k hk => (World.ownsRow.lt ho1 k hk).1)⟩
theorem Sl.takeS {w : World} {A : Option Addr} {l : List ByteArray} (h : Sl Lay.str w A l) (k : Nat) : Sl Lay.str w A (l.take k) := fun i x hx => h i x (by
  rw [List.getElem?_take] at hx
  split at hx
  · exact hx
  · cases hx)
theorem Sl.dropS {w : World} {b o : Nat} {l : List ByteArray} (h : Sl Lay.str w (some ⟨b, o, none⟩) l) (k : Nat) : Sl Lay.str w (some ⟨b, o + k, none⟩) (l.drop k) := fun i x hx => by
  rw [List.getElem?_drop] at hx
  obtain ⟨b', o', vs, e, hlt, hr, hc⟩ := h (k + i) x hx
  injection e with e
  injection e with e1 e2
  subst e1 e2
  refine ⟨_, _, vs, rfl, hlt, hr, fun j v hj => ?_⟩
  have := hc j v hj
  rw [show Lay.str.size = 1 from rfl] at this ⊢
  rw [show o + k + i * 1 + j = o + (k + i) * 1 + j by omega]
  exact this
theorem below_undrewC {w W : World} (h : Below w.heap.size w W) : Below w.drew.heap.size w.drew W := ⟨h.os, h.tape, h.output, h.size, h.block⟩
theorem ltS_lt {a b : ByteArray} : (toL a < toL b) ↔ a.toList < b.toList := by unfold toL; rw [ByteArray.toList_eq, ByteArray.toList_eq]

set_option maxRecDepth 100000 in
set_option maxHeartbeats 2000000 in
theorem refTags_any (A A2 : Option Addr) (c n2 c2 : Nat) (l : List Rul) (w : World) (hl : l.length ≤ 1400000000000) (hs : Sl Lay.rul w A l) :
    Calls Tryz.prog 19 #[.agg #[.slice A l.length c, .slice A2 n2 c2]] w fun e w' => RetStrs w w' (ascS (srcT l)) e ∧ Below w.heap.size w w' := by
  have hb0 : Below w.heap.size w (w.alloc (.cells #[.slice A l.length c, .slice A2 n2 c2] 25)) := (by repeat (first | assumption | exact Below.refl _ _ | apply bw_alloc | apply bw_drew | apply bw_drewN | apply bw_later | apply bw_step))
  have bx0 := Box.new w [.slice A l.length c, .slice A2 n2 c2] 25
  rw [← putAllS_eq]
  go_enter Tryz.func19, Tryz.ntmps19
  go_wp2_with fail
  go_loopw [3, 4] (fun v i wr => ∃ k : Nat, k ≤ l.length ∧ i = .int .i64 k ∧ Own cellsStr 1 w.heap.size 9 wr v (putAllS (srcT (l.take k))) ∧ Box wr w.heap.size [.slice A l.length c, .slice A2 n2 c2] 25 ∧ Below w.heap.size w wr) (fun _ i _ => l.length - (intOf i).toNat)
  case atStart => exact ⟨0, Nat.zero_le _, rfl, Own.nil, bx0, hb0⟩
  case round =>
    obtain ⟨k, hk, rfl, ho, hbx, hbw⟩ := hrel
    have p0 := hbx.cell 0 rfl
    have pl := hbx.lt
    have htl := srcT_len l k
    have hpal := putAllS_len (srcT (l.take k))
    by_cases hlt : k < l.length
    · obtain ⟨b, o, A5, c5, rfl, hb, d0, d1, d2, d3, d4, d5, d6, d7, hc5, hs5⟩ := (hs.mono hbw).rul_at hlt
      by_cases hkd : l[k].kind = 1
      · have HS := Lib.hid (srcT_yes hlt hkd)
        rw [hkd] at d0
        clear hkd
        obtain ⟨x, hx⟩ : ∃ x, x = l[k].tag := ⟨_, rfl⟩
        rw [← hx] at d7 HS
        clear hx
        obtain ⟨L, HPL⟩ : ∃ L, Hid (L = putAllS (srcT (l.take k))) := ⟨_, Lib.hid rfl⟩
        rw [← HPL.out] at ho hpal
        obtain ⟨AT, cT, rfl, hcT, hsT⟩ := ho.sl (L := Lay.str) rfl (fun x => rfl)
        go_upto_region 8 with fail
        obtain ⟨wo, rfl⟩ : ∃ wo : World, wo = wr := ⟨_, rfl⟩
        go_loop [6] (fun i => ∃ m : Nat, m ≤ L.length ∧ i = .int .i64 m ∧ Hid (∀ i (h : i < L.length), i < m → toL L[i] < toL x)) (fun i => L.length - (intOf i).toNat)
        case atStart => exact ⟨0, Nat.zero_le _, rfl, fun i h hi => by omega⟩
        case round =>
          obtain ⟨m, hm, rfl, HN⟩ := hrel
          by_cases hlm : m < L.length
          · obtain ⟨b1, o1, rfl, hb1, e0⟩ := hsT.str_at hlm
            have hlE : ¬ ((m : Int) = (L.length : Int)) := by omega
            have hlB : ((m : Int) == (L.length : Int)) = false := by simpa using hlE
            clear hlE
            by_cases hlx : toL L[m] < toL x
            · have t1 : Op.bytesLess L[m].toList x.toList = true := by rw [bytesLess_eq]; exact decide_eq_true (ltS_lt.1 hlx)
              have HE : Hid (∀ i (h : i < L.length), i < m + 1 → toL L[i] < toL x) := fun i h hi => by
                by_cases e : i = m
                · subst e; exact hlx
                · exact HN.out i h (by omega)
              clear hlx
              go_wp2_with fail
              go_round
              case rel => exact ⟨m + 1, by omega, by go_num, HE⟩
              case measure => simp [intOf]; omega
            · have t1 : Op.bytesLess L[m].toList x.toList = false := by rw [bytesLess_eq]; exact decide_eq_false (fun h => hlx (ltS_lt.2 h))
              by_cases heq : L[m] = x
              · have t2 : (L[m].toList == x.toList) = true := by rw [heq]; simp
                have HPN : Hid (putS L x = L) := putS_same hlm HN.out heq
                clear hlx heq
                have hnx : Own cellsStr 1 w.heap.size 9 wo (.slice (some ⟨b1, o1, none⟩) L.length cT) (putAllS (srcT (l.take (k + 1)))) := by rw [HS.out, putAllS_snoc, ← HPL.out, HPN.out]; exact ho
                go_wp2_with fail
                go_roundw
                case rel => exact ⟨k + 1, by omega, by go_num, hnx, hbx, hbw⟩
                case measure => simp [intOf]; omega
              have t2 : (L[m].toList == x.toList) = false := by
                rw [beq_eq_false_iff_ne]
                intro h
                rw [ByteArray.toList_eq, ByteArray.toList_eq] at h
                exact heq (toL_inj h)
              have HPN : Hid (putS L x = L.take m ++ [x] ++ L.drop m) := putS_new (by omega) HN.out (fun h => ⟨hlx, heq⟩)
              clear hlx heq
              have htk : (L.take m).length = m := by rw [List.length_take]; omega
              have hst : Sl Lay.str wo (some ⟨b1, o1, none⟩) (L.take m) := hsT.takeS m
              have hsd : Sl Lay.str wo (some ⟨b1, o1 + m, none⟩) (L.drop m) := hsT.dropS m
              go_upto_region 11 with fail
              refine wp_region_RZ 13 (by kernel_rfl) (by kernel_rfl) ?_
              refine RZ.chunk (f := 6) [1, 2, 3, 5, 8, 9, 10] (by kernel_rfl) ?_
              ((simp only [pickOps, List.filterMap, List.getElem?_toArray, List.getElem?_cons_zero, List.getElem?_cons_succ]); (repeat (go_big_quiet_step (fail))); refine wpQuiet_nil ?_)
              refine RZ.both 0 6 rfl rfl (by kernel_rfl) (by omega) (by omega) ?_ ?_
              · intro K hK
                go_wp2_with fail
                refine hK _ _ (bw_alloc (Below.refl _ _)) ?_
                clear hK
                generalize hW : World.drew (World.alloc _ _) = W2
                have hb2 : Below wo.heap.size wo W2 := by rw [← hW]; exact (by repeat (first | assumption | exact Below.refl _ _ | apply bw_alloc | apply bw_drew | apply bw_drewN | apply bw_later | apply bw_step))
                have hz2 : wo.heap.size < W2.heap.size := by rw [← hW]; simp
                have ho2 : Own cellsStr 1 wo.heap.size 9 W2 (.slice (some ⟨wo.heap.size, 0, none⟩) 0 0) ([] : List ByteArray) := by
                  rw [← hW]
                  exact (Own.lit wo #[] [] (Nat.le_refl _) (by decide) rfl rfl).mono (bw_drew (Below.refl _ _))
                clear hW
                refine RZ.both 4 6 rfl rfl (by kernel_rfl) (by omega) (by omega) ?_ ?_
                · intro K hK
                  obtain ⟨v4, w4, hrun4, ho4, hb4, hg4, hz4⟩ := run_pushAll (L := Lay.str) (c := cT) strsTy cellsStr_ok 38 ho2 (fun x vs h => h) rfl (hst.mono hb2) (by rw [htk]; simp [maxLen]; omega) (by rw [htk]; simp; omega) hb2.size
                  rw [htk] at hrun4
                  rw [List.nil_append] at ho4
                  refine wpList_appendRunD 57 rfl rfl (.tmp 53) (.tmp 56) 38 rfl rfl rfl hrun4 ?_
                  simp only [List.setIfInBounds_toArray, List.set_cons_succ, List.set_cons_zero]
                  go_wp2_with fail
                  have hbx4 : Below wo.heap.size wo w4 := hb2.trans hb4
                  refine hK _ _ (below_undrewC hbx4) ?_
                  clear hK
                  refine RZ.single 6 rfl (by kernel_rfl) (by omega) ?_
                  intro K hK
                  go_wp2_with fail
                  refine hK _ _ (below_undrewC (bw_alloc hbx4)) ?_
                  clear hK
                  have hxc := cells_one_new w4 (.string x) 9
                  have hbx5 : Below wo.heap.size wo (w4.alloc (.cells #[.string x] 9)) := bw_alloc hbx4
                  have ho5 := ho4.alloc (.cells #[.string x] 9)
                  refine RZ.single 7 rfl (by kernel_rfl) (by omega) ?_
                  intro K hK
                  obtain ⟨v7, w7, hrun7, ho7, hb7, hg7, hz7⟩ := run_push strsTy cellsStr_ok 38 ho5 x w4.heap.size 1 hxc (by rw [htk]; simp [maxLen]; omega) (by rw [htk]; omega) hbx5.size
                  refine wpList_appendRunD 60 rfl rfl (.tmp 57) (.tmp 59) 38 rfl rfl rfl hrun7 ?_
                  simp only [List.setIfInBounds_toArray, List.set_cons_succ, List.set_cons_zero]
                  go_wp2_with fail
                  have hbx7 : Below wo.heap.size wo w7 := hbx5.trans hb7
                  refine hK _ _ (below_undrewC hbx7) ?_
                  clear hK
                  refine RZ.single 11 rfl (by kernel_rfl) (by omega) ?_
                  intro K hK
                  obtain ⟨v8, w8, hrun8, ho8, hb8, hg8, hz8⟩ := run_pushAll (L := Lay.str) (c := cT - m) strsTy cellsStr_ok 38 ho7 (fun x vs h => h) rfl (hsd.mono hbx7) (by rw [List.length_append, htk, List.length_drop]; simp [maxLen]; omega) (by rw [List.length_append, htk, List.length_drop]; simp; omega) hbx7.size
                  rw [List.length_drop] at hrun8
                  refine wpList_appendRunD 64 rfl rfl (.tmp 60) (.tmp 63) 38 rfl rfl rfl hrun8 ?_
                  simp only [List.setIfInBounds_toArray, List.set_cons_succ, List.set_cons_zero]
                  go_wp2_with fail
                  have hbx8 : Below wo.heap.size wo w8 := hbx7.trans hb8
                  refine hK _ _ (below_undrewC hbx8) ?_
                  clear hK
                  refine RZ.chunk (f := 0) [12] (by kernel_rfl) ?_
                  ((simp only [pickOps, List.filterMap, List.getElem?_toArray, List.getElem?_cons_zero, List.getElem?_cons_succ]); (repeat (go_big_quiet_step (fail))); refine wpQuiet_nil ?_)
                  (refine RZ.done (by kernel_rfl) (by kernel_rfl) ?_)
                  go_wp2_with fail
                  have hnx := ho8.base_le' hbw.size
                  rw [← HPN.out, HPL.out, ← putAllS_snoc, ← HS.out] at hnx
                  obtain ⟨A9, n9, c9, rfl⟩ := ho8.isSl
                  go_roundw
                  case rel => exact ⟨k + 1, by omega, by go_num, hnx, hbx.mono hbx8, below_step hbw hbx8⟩
                  case measure => simp [intOf]; omega
                · intro K hK
                  go_wp2_with fail
                  refine hK _ _ (below_undrewC (bw_alloc hb2)) ?_
                  clear hK
                  have hb3 : Below wo.heap.size wo (W2.alloc (.cells #[.string x] 9)) := bw_alloc hb2
                  have bx3 := Box.new W2 [.string x] 9
                  refine RZ.single 4 rfl (by kernel_rfl) (by omega) ?_
                  intro K hK
                  obtain ⟨v4, w4, hrun4, ho4, hb4, hg4, hz4⟩ := run_pushAll (L := Lay.str) (c := cT) strsTy cellsStr_ok 38 (ho2.alloc (.cells #[.string x] 9)) (fun x vs h => h) rfl (hst.mono hb3) (by rw [htk]; simp [maxLen]; omega) (by rw [htk]; simp; omega) hb3.size
                  rw [htk] at hrun4
                  rw [List.nil_append] at ho4
                  refine wpList_appendRunD 57 rfl rfl (.tmp 53) (.tmp 56) 38 rfl rfl rfl hrun4 ?_
                  simp only [List.setIfInBounds_toArray, List.set_cons_succ, List.set_cons_zero]
                  go_wp2_with fail
                  have hbx4 : Below wo.heap.size wo w4 := hb3.trans hb4
                  refine hK _ _ (below_undrewC hbx4) ?_
                  clear hK
                  have bx4 := bx3.grown hg4 (by simp [Value.ownBlock]; omega)
                  have hxc : ∀ j u, (cellsStr x)[j]? = some u → w4.cell? ⟨W2.heap.size, j, none⟩ = some u := fun j u hj => bx4.cell j hj
                  refine RZ.single 7 rfl (by kernel_rfl) (by omega) ?_
                  intro K hK
                  obtain ⟨v7, w7, hrun7, ho7, hb7, hg7, hz7⟩ := run_push strsTy cellsStr_ok 38 ho4 x W2.heap.size 1 hxc (by rw [htk]; simp [maxLen]; omega) (by rw [htk]; omega) hbx4.size
                  refine wpList_appendRunD 60 rfl rfl (.tmp 57) (.tmp 59) 38 rfl rfl rfl hrun7 ?_
                  simp only [List.setIfInBounds_toArray, List.set_cons_succ, List.set_cons_zero]
                  go_wp2_with fail
                  have hbx7 : Below wo.heap.size wo w7 := hbx4.trans hb7
                  refine hK _ _ (below_undrewC hbx7) ?_
                  clear hK
                  refine RZ.single 11 rfl (by kernel_rfl) (by omega) ?_
                  intro K hK
                  obtain ⟨v8, w8, hrun8, ho8, hb8, hg8, hz8⟩ := run_pushAll (L := Lay.str) (c := cT - m) strsTy cellsStr_ok 38 ho7 (fun x vs h => h) rfl (hsd.mono hbx7) (by rw [List.length_append, htk, List.length_drop]; simp [maxLen]; omega) (by rw [List.length_append, htk, List.length_drop]; simp; omega) hbx7.size
                  rw [List.length_drop] at hrun8
                  refine wpList_appendRunD 64 rfl rfl (.tmp 60) (.tmp 63) 38 rfl rfl rfl hrun8 ?_
                  simp only [List.setIfInBounds_toArray, List.set_cons_succ, List.set_cons_zero]
                  go_wp2_with fail
                  have hbx8 : Below wo.heap.size wo w8 := hbx7.trans hb8
                  refine hK _ _ (below_undrewC hbx8) ?_
                  clear hK
                  refine RZ.chunk (f := 0) [12] (by kernel_rfl) ?_
                  ((simp only [pickOps, List.filterMap, List.getElem?_toArray, List.getElem?_cons_zero, List.getElem?_cons_succ]); (repeat (go_big_quiet_step (fail))); refine wpQuiet_nil ?_)
                  (refine RZ.done (by kernel_rfl) (by kernel_rfl) ?_)
                  go_wp2_with fail
                  have hnx := ho8.base_le' hbw.size
                  rw [← HPN.out, HPL.out, ← putAllS_snoc, ← HS.out] at hnx
                  obtain ⟨A9, n9, c9, rfl⟩ := ho8.isSl
                  go_roundw
                  case rel => exact ⟨k + 1, by omega, by go_num, hnx, hbx.mono hbx8, below_step hbw hbx8⟩
                  case measure => simp [intOf]; omega
              · intro K hK
                go_wp2_with fail
                refine hK _ _ (bw_alloc (Below.refl _ _)) ?_
                clear hK
                generalize hW : World.drew (World.alloc _ _) = W2
                have hb2 : Below wo.heap.size wo W2 := by rw [← hW]; exact (by repeat (first | assumption | exact Below.refl _ _ | apply bw_alloc | apply bw_drew | apply bw_drewN | apply bw_later | apply bw_step))
                have hz2 : wo.heap.size < W2.heap.size := by rw [← hW]; simp
                have bx2 : Box W2 wo.heap.size [.string x] 9 := by rw [← hW]; exact (Box.new _ _ _).drew
                clear hW
                refine RZ.single 0 rfl (by kernel_rfl) (by omega) ?_
                intro K hK
                go_wp2_with fail
                refine hK _ _ (below_undrewC (bw_alloc hb2)) ?_
                clear hK
                have hb3 : Below wo.heap.size wo (W2.alloc (.cells #[] 9)) := bw_alloc hb2
                have ho3 : Own cellsStr 1 wo.heap.size 9 (W2.alloc (.cells #[] 9)) (.slice (some ⟨W2.heap.size, 0, none⟩) 0 0) ([] : List ByteArray) := Own.lit W2 #[] [] hb2.size (by decide) rfl rfl
                refine RZ.single 4 rfl (by kernel_rfl) (by omega) ?_
                intro K hK
                obtain ⟨v4, w4, hrun4, ho4, hb4, hg4, hz4⟩ := run_pushAll (L := Lay.str) (c := cT) strsTy cellsStr_ok 38 ho3 (fun x vs h => h) rfl (hst.mono hb3) (by rw [htk]; simp [maxLen]; omega) (by rw [htk]; simp; omega) hb3.size
                rw [htk] at hrun4
                rw [List.nil_append] at ho4
                refine wpList_appendRunD 57 rfl rfl (.tmp 53) (.tmp 56) 38 rfl rfl rfl hrun4 ?_
                simp only [List.setIfInBounds_toArray, List.set_cons_succ, List.set_cons_zero]
                go_wp2_with fail
                have hbx4 : Below wo.heap.size wo w4 := hb3.trans hb4
                refine hK _ _ (below_undrewC hbx4) ?_
                clear hK
                have bx4 := (bx2.alloc (.cells #[] 9)).grown hg4 (by simp [Value.ownBlock]; omega)
                have hxc : ∀ j u, (cellsStr x)[j]? = some u → w4.cell? ⟨wo.heap.size, j, none⟩ = some u := fun j u hj => bx4.cell j hj
                refine RZ.single 7 rfl (by kernel_rfl) (by omega) ?_
                intro K hK
                obtain ⟨v7, w7, hrun7, ho7, hb7, hg7, hz7⟩ := run_push strsTy cellsStr_ok 38 ho4 x wo.heap.size 1 hxc (by rw [htk]; simp [maxLen]; omega) (by rw [htk]; omega) hbx4.size
                refine wpList_appendRunD 60 rfl rfl (.tmp 57) (.tmp 59) 38 rfl rfl rfl hrun7 ?_
                simp only [List.setIfInBounds_toArray, List.set_cons_succ, List.set_cons_zero]
                go_wp2_with fail
                have hbx7 : Below wo.heap.size wo w7 := hbx4.trans hb7
                refine hK _ _ (below_undrewC hbx7) ?_
                clear hK
                refine RZ.single 11 rfl (by kernel_rfl) (by omega) ?_
                intro K hK
                obtain ⟨v8, w8, hrun8, ho8, hb8, hg8, hz8⟩ := run_pushAll (L := Lay.str) (c := cT - m) strsTy cellsStr_ok 38 ho7 (fun x vs h => h) rfl (hsd.mono hbx7) (by rw [List.length_append, htk, List.length_drop]; simp [maxLen]; omega) (by rw [List.length_append, htk, List.length_drop]; simp; omega) hbx7.size
                rw [List.length_drop] at hrun8
                refine wpList_appendRunD 64 rfl rfl (.tmp 60) (.tmp 63) 38 rfl rfl rfl hrun8 ?_
                simp only [List.setIfInBounds_toArray, List.set_cons_succ, List.set_cons_zero]
                go_wp2_with fail
                have hbx8 : Below wo.heap.size wo w8 := hbx7.trans hb8
                refine hK _ _ (below_undrewC hbx8) ?_
                clear hK
                refine RZ.chunk (f := 0) [12] (by kernel_rfl) ?_
                ((simp only [pickOps, List.filterMap, List.getElem?_toArray, List.getElem?_cons_zero, List.getElem?_cons_succ]); (repeat (go_big_quiet_step (fail))); refine wpQuiet_nil ?_)
                (refine RZ.done (by kernel_rfl) (by kernel_rfl) ?_)
                go_wp2_with fail
                have hnx := ho8.base_le' hbw.size
                rw [← HPN.out, HPL.out, ← putAllS_snoc, ← HS.out] at hnx
                obtain ⟨A9, n9, c9, rfl⟩ := ho8.isSl
                go_roundw
                case rel => exact ⟨k + 1, by omega, by go_num, hnx, hbx.mono hbx8, below_step hbw hbx8⟩
                case measure => simp [intOf]; omega
          · obtain rfl : m = L.length := by omega
            have HPN : Hid (putS L x = L.take L.length ++ [x] ++ []) := by
              have := putS_new (Nat.le_refl _) HN.out (fun h => by omega)
              rw [List.drop_length] at this
              exact this
            have htk : (L.take L.length).length = L.length := by rw [List.take_length]
            have hst : Sl Lay.str wo AT (L.take L.length) := hsT.takeS _
            go_upto_region 11 with fail
            refine wp_region_RZ 13 (by kernel_rfl) (by kernel_rfl) ?_
            refine RZ.chunk (f := 6) [1, 2, 3, 5, 8, 9, 10] (by kernel_rfl) ?_
            ((simp only [pickOps, List.filterMap, List.getElem?_toArray, List.getElem?_cons_zero, List.getElem?_cons_succ]); (repeat (go_big_quiet_step (fail))); refine wpQuiet_nil ?_)
            generalize (if cT = L.length then AT else Option.map (fun x => x.add L.length) AT) = A43
            refine RZ.both 0 6 rfl rfl (by kernel_rfl) (by omega) (by omega) ?_ ?_
            · intro K hK
              go_wp2_with fail
              refine hK _ _ (bw_alloc (Below.refl _ _)) ?_
              clear hK
              generalize hW : World.drew (World.alloc _ _) = W2
              have hb2 : Below wo.heap.size wo W2 := by rw [← hW]; exact (by repeat (first | assumption | exact Below.refl _ _ | apply bw_alloc | apply bw_drew | apply bw_drewN | apply bw_later | apply bw_step))
              have hz2 : wo.heap.size < W2.heap.size := by rw [← hW]; simp
              have ho2 : Own cellsStr 1 wo.heap.size 9 W2 (.slice (some ⟨wo.heap.size, 0, none⟩) 0 0) ([] : List ByteArray) := by
                rw [← hW]
                exact (Own.lit wo #[] [] (Nat.le_refl _) (by decide) rfl rfl).mono (bw_drew (Below.refl _ _))
              clear hW
              refine RZ.both 4 6 rfl rfl (by kernel_rfl) (by omega) (by omega) ?_ ?_
              · intro K hK
                obtain ⟨v4, w4, hrun4, ho4, hb4, hg4, hz4⟩ := run_pushAll (L := Lay.str) (c := cT) strsTy cellsStr_ok 38 ho2 (fun x vs h => h) rfl (hst.mono hb2) (by rw [htk]; simp [maxLen]; omega) (by rw [htk]; simp; omega) hb2.size
                rw [htk] at hrun4
                rw [List.nil_append] at ho4
                refine wpList_appendRunD 57 rfl rfl (.tmp 53) (.tmp 56) 38 rfl rfl rfl hrun4 ?_
                simp only [List.setIfInBounds_toArray, List.set_cons_succ, List.set_cons_zero]
                go_wp2_with fail
                have hbx4 : Below wo.heap.size wo w4 := hb2.trans hb4
                refine hK _ _ (below_undrewC hbx4) ?_
                clear hK
                refine RZ.single 6 rfl (by kernel_rfl) (by omega) ?_
                intro K hK
                go_wp2_with fail
                refine hK _ _ (below_undrewC (bw_alloc hbx4)) ?_
                clear hK
                have hxc := cells_one_new w4 (.string x) 9
                have hbx5 : Below wo.heap.size wo (w4.alloc (.cells #[.string x] 9)) := bw_alloc hbx4
                have ho5 := ho4.alloc (.cells #[.string x] 9)
                refine RZ.single 7 rfl (by kernel_rfl) (by omega) ?_
                intro K hK
                obtain ⟨v7, w7, hrun7, ho7, hb7, hg7, hz7⟩ := run_push strsTy cellsStr_ok 38 ho5 x w4.heap.size 1 hxc (by rw [htk]; simp [maxLen]; omega) (by rw [htk]; omega) hbx5.size
                refine wpList_appendRunD 60 rfl rfl (.tmp 57) (.tmp 59) 38 rfl rfl rfl hrun7 ?_
                simp only [List.setIfInBounds_toArray, List.set_cons_succ, List.set_cons_zero]
                go_wp2_with fail
                have hbx7 : Below wo.heap.size wo w7 := hbx5.trans hb7
                refine hK _ _ (below_undrewC hbx7) ?_
                clear hK
                refine RZ.single 11 rfl (by kernel_rfl) (by omega) ?_
                intro K hK
                obtain ⟨v8, w8, hrun8, ho8, hb8, hg8, hz8⟩ := run_pushAll (L := Lay.str) (c := cT - L.length) strsTy cellsStr_ok 38 ho7 (fun x vs h => h) rfl (Sl.nil : Sl Lay.str w7 A43 []) (by rw [List.length_append, htk]; simp [maxLen]; omega) (by rw [List.length_append, htk]; simp; omega) hbx7.size
                rw [List.length_nil] at hrun8
                refine wpList_appendRunD 64 rfl rfl (.tmp 60) (.tmp 63) 38 rfl rfl rfl hrun8 ?_
                simp only [List.setIfInBounds_toArray, List.set_cons_succ, List.set_cons_zero]
                go_wp2_with fail
                have hbx8 : Below wo.heap.size wo w8 := hbx7.trans hb8
                refine hK _ _ (below_undrewC hbx8) ?_
                clear hK
                refine RZ.chunk (f := 0) [12] (by kernel_rfl) ?_
                ((simp only [pickOps, List.filterMap, List.getElem?_toArray, List.getElem?_cons_zero, List.getElem?_cons_succ]); (repeat (go_big_quiet_step (fail))); refine wpQuiet_nil ?_)
                (refine RZ.done (by kernel_rfl) (by kernel_rfl) ?_)
                go_wp2_with fail
                have hnx := ho8.base_le' hbw.size
                rw [← HPN.out, HPL.out, ← putAllS_snoc, ← HS.out] at hnx
                obtain ⟨A9, n9, c9, rfl⟩ := ho8.isSl
                go_roundw
                case rel => exact ⟨k + 1, by omega, by go_num, hnx, hbx.mono hbx8, below_step hbw hbx8⟩
                case measure => simp [intOf]; omega
              · intro K hK
                go_wp2_with fail
                refine hK _ _ (below_undrewC (bw_alloc hb2)) ?_
                clear hK
                have hb3 : Below wo.heap.size wo (W2.alloc (.cells #[.string x] 9)) := bw_alloc hb2
                have bx3 := Box.new W2 [.string x] 9
                refine RZ.single 4 rfl (by kernel_rfl) (by omega) ?_
                intro K hK
                obtain ⟨v4, w4, hrun4, ho4, hb4, hg4, hz4⟩ := run_pushAll (L := Lay.str) (c := cT) strsTy cellsStr_ok 38 (ho2.alloc (.cells #[.string x] 9)) (fun x vs h => h) rfl (hst.mono hb3) (by rw [htk]; simp [maxLen]; omega) (by rw [htk]; simp; omega) hb3.size
                rw [htk] at hrun4
                rw [List.nil_append] at ho4
                refine wpList_appendRunD 57 rfl rfl (.tmp 53) (.tmp 56) 38 rfl rfl rfl hrun4 ?_
                simp only [List.setIfInBounds_toArray, List.set_cons_succ, List.set_cons_zero]
                go_wp2_with fail
                have hbx4 : Below wo.heap.size wo w4 := hb3.trans hb4
                refine hK _ _ (below_undrewC hbx4) ?_
                clear hK
                have bx4 := bx3.grown hg4 (by simp [Value.ownBlock]; omega)
                have hxc : ∀ j u, (cellsStr x)[j]? = some u → w4.cell? ⟨W2.heap.size, j, none⟩ = some u := fun j u hj => bx4.cell j hj
                refine RZ.single 7 rfl (by kernel_rfl) (by omega) ?_
                intro K hK
                obtain ⟨v7, w7, hrun7, ho7, hb7, hg7, hz7⟩ := run_push strsTy cellsStr_ok 38 ho4 x W2.heap.size 1 hxc (by rw [htk]; simp [maxLen]; omega) (by rw [htk]; omega) hbx4.size
                refine wpList_appendRunD 60 rfl rfl (.tmp 57) (.tmp 59) 38 rfl rfl rfl hrun7 ?_
                simp only [List.setIfInBounds_toArray, List.set_cons_succ, List.set_cons_zero]
                go_wp2_with fail
                have hbx7 : Below wo.heap.size wo w7 := hbx4.trans hb7
                refine hK _ _ (below_undrewC hbx7) ?_
                clear hK
                refine RZ.single 11 rfl (by kernel_rfl) (by omega) ?_
                intro K hK
                obtain ⟨v8, w8, hrun8, ho8, hb8, hg8, hz8⟩ := run_pushAll (L := Lay.str) (c := cT - L.length) strsTy cellsStr_ok 38 ho7 (fun x vs h => h) rfl (Sl.nil : Sl Lay.str w7 A43 []) (by rw [List.length_append, htk]; simp [maxLen]; omega) (by rw [List.length_append, htk]; simp; omega) hbx7.size
                rw [List.length_nil] at hrun8
                refine wpList_appendRunD 64 rfl rfl (.tmp 60) (.tmp 63) 38 rfl rfl rfl hrun8 ?_
                simp only [List.setIfInBounds_toArray, List.set_cons_succ, List.set_cons_zero]
                go_wp2_with fail
                have hbx8 : Below wo.heap.size wo w8 := hbx7.trans hb8
                refine hK _ _ (below_undrewC hbx8) ?_
                clear hK
                refine RZ.chunk (f := 0) [12] (by kernel_rfl) ?_
                ((simp only [pickOps, List.filterMap, List.getElem?_toArray, List.getElem?_cons_zero, List.getElem?_cons_succ]); (repeat (go_big_quiet_step (fail))); refine wpQuiet_nil ?_)
                (refine RZ.done (by kernel_rfl) (by kernel_rfl) ?_)
                go_wp2_with fail
                have hnx := ho8.base_le' hbw.size
                rw [← HPN.out, HPL.out, ← putAllS_snoc, ← HS.out] at hnx
                obtain ⟨A9, n9, c9, rfl⟩ := ho8.isSl
                go_roundw
                case rel => exact ⟨k + 1, by omega, by go_num, hnx, hbx.mono hbx8, below_step hbw hbx8⟩
                case measure => simp [intOf]; omega
            · intro K hK
              go_wp2_with fail
              refine hK _ _ (bw_alloc (Below.refl _ _)) ?_
              clear hK
              generalize hW : World.drew (World.alloc _ _) = W2
              have hb2 : Below wo.heap.size wo W2 := by rw [← hW]; exact (by repeat (first | assumption | exact Below.refl _ _ | apply bw_alloc | apply bw_drew | apply bw_drewN | apply bw_later | apply bw_step))
              have hz2 : wo.heap.size < W2.heap.size := by rw [← hW]; simp
              have bx2 : Box W2 wo.heap.size [.string x] 9 := by rw [← hW]; exact (Box.new _ _ _).drew
              clear hW
              refine RZ.single 0 rfl (by kernel_rfl) (by omega) ?_
              intro K hK
              go_wp2_with fail
              refine hK _ _ (below_undrewC (bw_alloc hb2)) ?_
              clear hK
              have hb3 : Below wo.heap.size wo (W2.alloc (.cells #[] 9)) := bw_alloc hb2
              have ho3 : Own cellsStr 1 wo.heap.size 9 (W2.alloc (.cells #[] 9)) (.slice (some ⟨W2.heap.size, 0, none⟩) 0 0) ([] : List ByteArray) := Own.lit W2 #[] [] hb2.size (by decide) rfl rfl
              refine RZ.single 4 rfl (by kernel_rfl) (by omega) ?_
              intro K hK
              obtain ⟨v4, w4, hrun4, ho4, hb4, hg4, hz4⟩ := run_pushAll (L := Lay.str) (c := cT) strsTy cellsStr_ok 38 ho3 (fun x vs h => h) rfl (hst.mono hb3) (by rw [htk]; simp [maxLen]; omega) (by rw [htk]; simp; omega) hb3.size
              rw [htk] at hrun4
              rw [List.nil_append] at ho4
              refine wpList_appendRunD 57 rfl rfl (.tmp 53) (.tmp 56) 38 rfl rfl rfl hrun4 ?_
              simp only [List.setIfInBounds_toArray, List.set_cons_succ, List.set_cons_zero]
              go_wp2_with fail
              have hbx4 : Below wo.heap.size wo w4 := hb3.trans hb4
              refine hK _ _ (below_undrewC hbx4) ?_
              clear hK
              have bx4 := (bx2.alloc (.cells #[] 9)).grown hg4 (by simp [Value.ownBlock]; omega)
              have hxc : ∀ j u, (cellsStr x)[j]? = some u → w4.cell? ⟨wo.heap.size, j, none⟩ = some u := fun j u hj => bx4.cell j hj
              refine RZ.single 7 rfl (by kernel_rfl) (by omega) ?_
              intro K hK
              obtain ⟨v7, w7, hrun7, ho7, hb7, hg7, hz7⟩ := run_push strsTy cellsStr_ok 38 ho4 x wo.heap.size 1 hxc (by rw [htk]; simp [maxLen]; omega) (by rw [htk]; omega) hbx4.size
              refine wpList_appendRunD 60 rfl rfl (.tmp 57) (.tmp 59) 38 rfl rfl rfl hrun7 ?_
              simp only [List.setIfInBounds_toArray, List.set_cons_succ, List.set_cons_zero]
              go_wp2_with fail
              have hbx7 : Below wo.heap.size wo w7 := hbx4.trans hb7
              refine hK _ _ (below_undrewC hbx7) ?_
              clear hK
              refine RZ.single 11 rfl (by kernel_rfl) (by omega) ?_
              intro K hK
              obtain ⟨v8, w8, hrun8, ho8, hb8, hg8, hz8⟩ := run_pushAll (L := Lay.str) (c := cT - L.length) strsTy cellsStr_ok 38 ho7 (fun x vs h => h) rfl (Sl.nil : Sl Lay.str w7 A43 []) (by rw [List.length_append, htk]; simp [maxLen]; omega) (by rw [List.length_append, htk]; simp; omega) hbx7.size
              rw [List.length_nil] at hrun8
              refine wpList_appendRunD 64 rfl rfl (.tmp 60) (.tmp 63) 38 rfl rfl rfl hrun8 ?_
              simp only [List.setIfInBounds_toArray, List.set_cons_succ, List.set_cons_zero]
              go_wp2_with fail
              have hbx8 : Below wo.heap.size wo w8 := hbx7.trans hb8
              refine hK _ _ (below_undrewC hbx8) ?_
              clear hK
              refine RZ.chunk (f := 0) [12] (by kernel_rfl) ?_
              ((simp only [pickOps, List.filterMap, List.getElem?_toArray, List.getElem?_cons_zero, List.getElem?_cons_succ]); (repeat (go_big_quiet_step (fail))); refine wpQuiet_nil ?_)
              (refine RZ.done (by kernel_rfl) (by kernel_rfl) ?_)
              go_wp2_with fail
              have hnx := ho8.base_le' hbw.size
              rw [← HPN.out, HPL.out, ← putAllS_snoc, ← HS.out] at hnx
              obtain ⟨A9, n9, c9, rfl⟩ := ho8.isSl
              go_roundw
              case rel => exact ⟨k + 1, by omega, by go_num, hnx, hbx.mono hbx8, below_step hbw hbx8⟩
              case measure => simp [intOf]; omega
      · have HS := Lib.hid (srcT_no hlt hkd)
        have e1 : (l[k].kind != 1) = true := by simpa using hkd
        clear hkd
        go_wp2_with fail
        go_roundw
        case rel => exact ⟨k + 1, by omega, by go_num, by rw [HS.out]; exact ho, hbx, hbw⟩
        case measure => simp [intOf]; omega
    · obtain rfl : k = l.length := by omega
      rw [List.take_length] at ho
      go_wp2_with fail
      go_ret
      exact ⟨⟨_, rfl, ho⟩, hbw⟩
end Go.Proofs.YthabojhnliomnaaGreatDoor
