/-
  Chapter 10: the reference's look-up of a method in any hierarchy.
-/
import Derived.Test.YthabojhnliomnaaGreatDoorChn
import Derived.Test.YthabojhnliomnaaGreatDoorRegZ
namespace Go.Proofs.YthabojhnliomnaaGreatDoor
open Go.RowKit
set_option linter.unusedVariables false

theorem chGo_fix {cs : List Cls} : ∀ (f : Nat) (i : Int) (l : List Int), (0 ≤ i → fnd cs (nmAt cs i) = i) → (∀ j ∈ l, fnd cs (nmAt cs j) = j) → ∀ j ∈ (chGo (supI cs) f i l).1, fnd cs (nmAt cs j) = j
  | 0, i, l, _, h => h
  | f + 1, i, l, hi, h => by
    by_cases hc : 0 ≤ i ∧ i ∉ l
    · rw [chGo_step hc]
      refine chGo_fix f _ _ (fun h0 => ?_) (fun j hj => ?_)
      · unfold supI at h0 ⊢
        split at h0
        · split at h0
          · omega
          · rename_i hq
            rw [if_neg hq] at *
            rw [nm_fndG h0]
        · omega
      · rcases List.mem_append.1 hj with hj | hj
        · exact h j hj
        · simp at hj; subst hj; exact hi hc.1
    · rw [chGo_stop hc]; exact h
theorem chR_fix (cs : List Cls) (s : ByteArray) : ∀ j ∈ (chR cs (fnd cs s)).1, fnd cs (nmAt cs j) = j :=
  chGo_fix _ _ _ (fun h0 => by rw [nm_fndG h0]) (by simp)
set_option maxRecDepth 100000 in
set_option maxHeartbeats 4000000 in
theorem refLookup_g (A : Option Addr) (c : Nat) (cs : List Cls) (s m : ByteArray) (w : World) (hl : cs.length ≤ 8796093022208) (hsl : Sl Lay.cls w A cs) (hlk : Hid (LensOk cs)) :
    Calls Tryz.prog 71 #[.agg #[.slice A cs.length c], .string s, .string m] w fun e w' => LookR cs (lookS cs s m) e w' ∧ Below w.heap.size w w' := by
  have HFIX := Lib.hid (chR_fix cs s)
  have HBD := Lib.hid (chR_bd (cs := cs) (fnd_bd cs s).2).1
  obtain ⟨q, HQ⟩ : ∃ q, Hid (q = lookS cs s m) := ⟨_, Lib.hid rfl⟩
  rw [← HQ.out]
  have HQ0 : Hid (q = lookL cs m (chR cs (fnd cs s)).1) := HQ.out
  have hlen := chR_len (cs := cs) (fnd_bd cs s).2
  have HSU : Hid (supersL cs s = (chR cs (fnd cs s)).1.map (nmAt cs)) := rfl
  generalize (chR cs (fnd cs s)).1 = I at *
  have hslen : (supersL cs s).length = I.length := by rw [HSU.out, List.length_map]
  have HNM : Hid (∀ k (h : k < I.length) (h2 : k < (supersL cs s).length), (supersL cs s)[k] = nmAt cs I[k]) := fun k h h2 => by simp [HSU.out]
  have bh0 := Box.new w [.slice A cs.length c] 42
  have hb0 : Below w.heap.size w ((w.alloc (.cells #[.slice A cs.length c] 42)).alloc (.cells #[.string ByteArray.empty, .bool false, .slice none 0 0, .string ByteArray.empty] 98)) := (by repeat (first | assumption | exact Below.refl _ _ | apply bw_alloc | apply bw_drew | apply bw_drewN | apply bw_later | apply bw_step))
  have bs0 := Box.new (w.alloc (.cells #[.slice A cs.length c] 42)) [.string ByteArray.empty, .bool false, .slice none 0 0, .string ByteArray.empty] 98
  rw [show (w.alloc (.cells #[.slice A cs.length c] 42)).heap.size = w.heap.size + 1 by simp] at bs0
  have bh1 := bh0.alloc (.cells #[.string ByteArray.empty, .bool false, .slice none 0 0, .string ByteArray.empty] 98)
  go_enter Tryz.func71, Tryz.ntmps71
  go_wp2_with fail
  refine (refSupers_g A c cs s _ hl (hsl.mono hb0)).mono ?_
  rintro e w1 ⟨⟨v1, rfl, ho1⟩, hb1⟩
  have bh2 := bh1.mono hb1
  have bs2 := bs0.mono hb1
  have hbw1 := below_step hb0 hb1
  obtain ⟨A1, c1, rfl, hc1, hs1⟩ := StrsV.of_own ho1
  generalize supersL cs s = N at *
  clear hb0 hb1 bh0 bs0 bh1 ho1
  go_wp2_with fail
  go_loopw [10] (fun i wr => ∃ k : Nat, k ≤ N.length ∧ i = .int .i64 k ∧ Hid (q = lookL cs m (I.drop k)) ∧ Below w1.heap.size w1 wr) (fun i _ => N.length - (intOf i).toNat)
  case atStart => exact ⟨0, Nat.zero_le _, rfl, by show _ = _; rw [List.drop_zero]; exact HQ0.out, Below.refl _ _⟩
  case round =>
    obtain ⟨k, hk, rfl, HK, hbr⟩ := hrel
    have bh := bh2.mono hbr
    have bs := bs2.mono hbr
    have hbw := below_step hbw1 hbr
    have hs1r := hs1.mono hbr
    by_cases hlt : k < N.length
    · have hki : k < I.length := by omega
      have hIb := HBD.out _ (List.getElem_mem hki)
      have hIf := HFIX.out _ (List.getElem_mem hki)
      have hNk := HNM.out k hki hlt
      have HNO := Lib.hid (fun h => lookL_no (cs := cs) (m := m) hki h)
      have HYES := Lib.hid (fun h => lookL_yes (cs := cs) (m := m) hki h)
      generalize I[k] = ik at *
      obtain ⟨n, rfl⟩ : ∃ n : Nat, ik = n := ⟨ik.toNat, by omega⟩
      have hn : n < cs.length := by omega
      rw [nmAt_nat hn] at hNk
      have HX : Hid (fnd cs N[k] = n) := by show _ = _; rw [hNk]; rw [nmAt_nat hn] at hIf; exact hIf
      have HNK := Lib.hid hNk
      clear hIf hNk hIb
      have hml := (hlk.out _ (List.getElem_mem hn)).2.1
      obtain ⟨bN, oN, rfl, hbN, n0⟩ := hs1r.str_at hlt
      obtain ⟨b0, o, A2, c2, A3, c3, rfl, hbo, d0, d1, d2, d3, hc2, hs2, hc3, hs3⟩ := hsl.cls_at hn
      have hb := Nat.lt_of_lt_of_le hbo hbw.size
      replace d0 := keptC d0 hbo hbw
      replace d1 := keptC d1 hbo hbw
      replace d2 := keptC d2 hbo hbw
      replace d3 := keptC d3 hbo hbw
      have h0 := bh.cell 0 rfl
      have hlh := bh.lt
      have HFD : Hid (∀ W, Below w.heap.size w W → Calls Tryz.prog 110 #[.agg #[.slice (some ⟨b0, o, none⟩) cs.length c], .string N[k]] W fun e w' => e = .returned (.int .i64 (n : Int)) ∧ Below W.heap.size W w') := fun W hW => by
        have := refFind_g (some ⟨b0, o, none⟩) c cs N[k] W hl (hsl.mono hW)
        rw [HX.out] at this
        exact this
      go_upto_region 5 with fail
      go_cut [11] (fun s11 wx => ∃ g, s11 = .pointer (some ⟨g, 0, none⟩) ∧ Box wx g [.string cs[n].name, .string cs[n].super, .slice A2 cs[n].fields.length c2, .slice A3 cs[n].methods.length c3] 113 ∧ Below wr.heap.size wr wx)
      case first =>
        refine wp_region_RZ 12 (by kernel_rfl) (by kernel_rfl) ?_
        refine RZ.chunk (f := 5) [0, 1, 2, 3, 4, 5, 6] (by kernel_rfl) ?_
        ((simp only [pickOps, List.filterMap, List.getElem?_toArray, List.getElem?_cons_zero, List.getElem?_cons_succ]); (repeat (go_big_quiet_step (fail))); refine wpQuiet_nil ?_)
        refine RZ.both 7 10 rfl rfl (by kernel_rfl) (by omega) (by omega) ?_ ?_
        · intro K hK
          go_wp2_with fail
          refine (HFD.out _ hbw.drew).mono ?_
          rintro e w6 ⟨rfl, hb6⟩
          have hb6' : Below wr.heap.size wr w6 := below_step (Below.refl _ _).drew hb6
          go_wp2_with fail
          refine hK _ _ hb6 ?_
          clear hK
          refine RZ.chunk (f := 2) [8, 9] (by kernel_rfl) ?_
          ((simp only [pickOps, List.filterMap, List.getElem?_toArray, List.getElem?_cons_zero, List.getElem?_cons_succ]); (repeat (go_big_quiet_step (fail))); refine wpQuiet_nil ?_)
          refine RZ.single 10 rfl (by kernel_rfl) (by omega) ?_
          intro K hK
          go_wp2_with fail
          refine hK _ _ (bw_alloc hb6) ?_
          clear hK
          refine RZ.single 11 rfl (by kernel_rfl) (by omega) ?_
          intro K hK
          go_wp2_with fail
          refine hK _ _ (bw_alloc hb6) ?_
          clear hK
          (refine RZ.done (by kernel_rfl) (by kernel_rfl) ?_)
          go_wp2_with fail
          go_meet
          exact ⟨_, rfl, Box.new _ _ _, bw_alloc hb6'⟩
        · intro K hK
          go_wp2_with fail
          refine hK _ _ (bw_alloc (Below.refl _ _)) ?_
          clear hK
          generalize hW : World.drew (World.alloc _ _) = W2
          have hbz : Below wr.drew.heap.size wr.drew W2 := by rw [← hW]; exact bw_alloc (Below.refl _ _)
          have hbz2 : Below wr.heap.size wr W2 := below_step (Below.refl _ _).drew hbz
          have byz : Box W2 wr.heap.size [.string ByteArray.empty, .string ByteArray.empty, .slice none 0 0, .slice none 0 0] 113 := by rw [← hW]; exact (Box.new _ _ _).drew
          clear hW
          refine RZ.single 7 rfl (by kernel_rfl) (by omega) ?_
          intro K hK
          go_wp2_with fail
          refine (HFD.out _ (below_step hbw hbz2)).mono ?_
          rintro e w6 ⟨rfl, hb6⟩
          have hb7 := below_step hbz hb6
          have hb7' : Below wr.heap.size wr w6 := below_step hbz2 hb6
          have by6 := byz.mono hb6
          go_wp2_with fail
          refine hK _ _ hb7 ?_
          clear hK
          refine RZ.chunk (f := 1) [8, 9] (by kernel_rfl) ?_
          ((simp only [pickOps, List.filterMap, List.getElem?_toArray, List.getElem?_cons_zero, List.getElem?_cons_succ]); (repeat (go_big_quiet_step (fail))); refine wpQuiet_nil ?_)
          have yl6 := by6.lt
          have yf := fun i => by6.free i
          have y0 := by6.cell 0 rfl
          have y1 := by6.cell 1 rfl
          have y2 := by6.cell 2 rfl
          have y3 := by6.cell 3 rfl
          obtain ⟨by9, hg9⟩ := by6.store4 (.string cs[n].name) (.string cs[n].super) (.slice A2 cs[n].fields.length c2) (.slice A3 cs[n].methods.length c3)
          have hb9 := hb7'.grown hg9 hb7'.size (fun k hk => by injection hk with hk; omega)
          have hb9d := hb7.grown hg9 hb7.size (fun k hk => by injection hk with hk; have : wr.drew.heap.size = wr.heap.size := rfl; omega)
          refine RZ.single 11 rfl (by kernel_rfl) (by omega) ?_
          intro K hK
          go_wp2_with fail
          refine hK _ _ hb9d ?_
          clear hK
          (refine RZ.done (by kernel_rfl) (by kernel_rfl) ?_)
          go_wp2_with fail
          go_meet
          exact ⟨_, rfl, by9, hb9⟩
      case rest =>
        obtain ⟨g, rfl, bc, hbx⟩ := hcut
        clear h0 hlh d0 d1 d2 d3 n0 HFD
        have hbrx := below_step hbr hbx
        have bhx := bh.mono hbx
        have bsx := bs.mono hbx
        have hbwx := below_step hbw hbx
        have hs1x := hs1r.mono hbx
        clear hs2 hbx hbr bh bs hbw hs1r
        go_wp2_with fail
        have bc2 := bc
        have k3 := bc.cell 3 rfl
        have kl := bc.lt
        go_loop [12] (fun i => ∃ j : Nat, j ≤ cs[n].methods.length ∧ i = .int .i64 j ∧ Hid (∀ i (hi : i < j) (hi2 : i < cs[n].methods.length), isSg m cs[n].methods[i] = false)) (fun i => cs[n].methods.length - (intOf i).toNat)
        case atStart => exact ⟨0, Nat.zero_le _, rfl, fun i hi => by omega⟩
        case round =>
          obtain ⟨j, hj, rfl, HJ⟩ := hrel
          by_cases hjl : j < cs[n].methods.length
          · obtain ⟨bM, oM, A4, c4, rfl, hbMo, m0, m1, m2, m3, hc4, hs4⟩ := hs3.sg_at hjl
            have hbM := Nat.lt_of_lt_of_le hbMo hbwx.size
            replace m0 := keptC m0 hbMo hbwx
            replace m1 := keptC m1 hbMo hbwx
            replace m2 := keptC m2 hbMo hbwx
            replace m3 := keptC m3 hbMo hbwx
            cases hq : isSg m cs[n].methods[j] with
            | false =>
              have HJ2 : Hid (∀ i (hi : i < j + 1) (hi2 : i < cs[n].methods.length), isSg m cs[n].methods[i] = false) := fun i hi hi2 => by
                by_cases e : i = j
                · subst e; exact hq
                · exact HJ.out i (by omega) hi2
              unfold isSg at hq
              go_wp2_with fail
              go_round
              case rel => exact ⟨j + 1, by omega, by go_num, HJ2⟩
              case measure => simp [intOf]; omega
            | true =>
              have HI : Hid (mIdx cs m n = j) := by show _ = _; rw [mIdx_nat hn]; exact idxI_at hjl (fun i hi => HJ.out i hi (by omega)) hq
              have HE : Hid (q = ((n : Int), (j : Int))) := by show _ = _; rw [HK.out, HYES.out (by rw [HI.out]; omega), HI.out]
              unfold isSg at hq
              obtain ⟨bN', oN', eA, hbN', n0⟩ := hs1x.str_at hlt
              injection eA with eA
              injection eA with z1 z2
              subst z1 z2
              rw [HNK.out] at n0
              have s0 := bsx.cell 0 rfl
              have s1 := bsx.cell 1 rfl
              have s2 := bsx.cell 2 rfl
              have s3 := bsx.cell 3 rfl
              have sf := fun i => bsx.free i
              have sl := bsx.lt
              go_wp2_with fail
              refine wp_region_later_tail 10 (by kernel_rfl) (by kernel_rfl) ?_
              simp only [List.take_succ_cons, List.take_zero, List.drop_succ_cons, List.drop_zero]
              repeat (go_big_quiet_step (fail))
              refine wpQuiet_nil ?_
              rintro _ ⟨z, rfl⟩
              have bsz := bsx.mono z.h
              have hbwz := below_step hbwx z.h
              clear s0 s1 s2 s3 sf sl m0 m1 m2 m3 n0
              have s0 := bsz.cell 0 rfl
              have s1 := bsz.cell 1 rfl
              have s2 := bsz.cell 2 rfl
              have s3 := bsz.cell 3 rfl
              have sf := fun i => bsz.free i
              have sl := bsz.lt
              generalize z.W = wz at *
              go_wp2_with fail
              obtain ⟨hbz, hgz⟩ := bsz.store4 (.string cs[n].methods[j].name) (.bool cs[n].methods[j].static) (.slice A4 cs[n].methods[j].params.length c4) (.string cs[n].methods[j].result)
              have hbw4 := hbwz.grown hgz hbwz.size (fun k hk => by injection hk with hk; omega)
              generalize hWW : ((((wz.setCell ⟨w.heap.size + 1, 0, none⟩ (.string cs[n].methods[j].name)).setCell ⟨w.heap.size + 1, 1, none⟩ (.bool cs[n].methods[j].static)).setCell ⟨w.heap.size + 1, 2, none⟩ (.slice A4 cs[n].methods[j].params.length c4)).setCell ⟨w.heap.size + 1, 3, none⟩ (.string cs[n].methods[j].result)) = wy at *
              clear hWW
              have q0 := hbz.cell 0 rfl
              have q1 := hbz.cell 1 rfl
              have q2 := hbz.cell 2 rfl
              have q3 := hbz.cell 3 rfl
              refine bodyPost_ret (v := .tuple #[.string cs[n].name, .agg #[.string cs[n].methods[j].name, .bool cs[n].methods[j].static, .slice A4 cs[n].methods[j].params.length c4, .string cs[n].methods[j].result], .bool true]) (by simp [results, Tryz.results71, go_sem, q0, q1, q2, q3]) rfl ⟨⟨fun h => ?_, fun j' k' hj' hk' h => ?_⟩, hbw4⟩
              · rw [HE.out] at h
                injection h with h1 h2
                omega
              · rw [HE.out] at h
                injection h with h1 h2
                obtain rfl : n = j' := by omega
                obtain rfl : j = k' := by omega
                exact ⟨_, rfl, A4, c4, rfl, hc4, hs4.mono hbw4⟩
          · have HI : Hid (mIdx cs m n = -1) := by show _ = _; rw [mIdx_nat hn]; exact idxI_none (fun i hi => HJ.out i (by omega) hi)
            have HK2 : Hid (q = lookL cs m (I.drop (k + 1))) := by show _ = _; rw [HK.out, HNO.out (by rw [HI.out]; omega)]
            go_wp2_with fail
            go_roundw
            case rel => exact ⟨k + 1, by omega, by go_num, HK2, hbrx⟩
            case measure => simp [intOf]; omega
    · have HE : Hid (q = (-1, -1)) := by show _ = _; rw [HK.out, lookL_end (by omega)]
      have s0 := bs.cell 0 rfl
      have s1 := bs.cell 1 rfl
      have s2 := bs.cell 2 rfl
      have s3 := bs.cell 3 rfl
      have sf := fun i => bs.free i
      have sl := bs.lt
      go_wp2_with fail
      obtain ⟨hbz, hgz⟩ := bs.store4 (.string { data := #[] }) (.bool false) (.slice none 0 0) (.string { data := #[] })
      have hbw4 := hbw.grown hgz hbw.size (fun k hk => by injection hk with hk; omega)
      generalize ((((wr.setCell ⟨w.heap.size + 1, 0, none⟩ (.string { data := #[] })).setCell ⟨w.heap.size + 1, 1, none⟩ (.bool false)).setCell ⟨w.heap.size + 1, 2, none⟩ (.slice none 0 0)).setCell ⟨w.heap.size + 1, 3, none⟩ (.string { data := #[] })) = wz at *
      have q0 := hbz.cell 0 rfl
      have q1 := hbz.cell 1 rfl
      have q2 := hbz.cell 2 rfl
      have q3 := hbz.cell 3 rfl
      refine bodyPost_ret (v := .tuple #[.string { data := #[] }, .agg #[.string { data := #[] }, .bool false, .slice none 0 0, .string { data := #[] }], .bool false]) (by simp [results, Tryz.results71, go_sem, q0, q1, q2, q3]) rfl ⟨⟨fun _ => rfl, fun j k hj hk h => ?_⟩, hbw4⟩
      rw [HE.out] at h
      injection h with h1 h2
      omega
end Go.Proofs.YthabojhnliomnaaGreatDoor
