/-
  Chapter 10: the walk of the law HierDispatch.
-/
import Derived.Test.YtafincpkehlcfaaDoorHierY
namespace Go.Proofs.YtafincpkehlcfaaDoor
open Go.RowKit
set_option linter.unusedVariables false

set_option maxRecDepth 100000 in
set_option maxHeartbeats 16000000 in
theorem walk_HierDispatch (w : World) (A : Option Addr) (c : Nat) (cs : List Cls) (m : ByteArray) (hl : cs.length ≤ 8796093022208) (hcc : cs.length ≤ c) (hsl : Sl Lay.cls w A cs) (hok : Hid (StrOk cs)) (hlk : Hid (LensOk cs)) (hm : okStr m) (hkw : KwAt w) :
    Calls Tryd.prog 3 #[.agg #[.slice A cs.length c], .string m] w fun e w' => e = .returned (.bool true) ∧ Below w.heap.size w w' := by
  have hb0 : Below w.heap.size w (w.alloc (.cells #[.slice A cs.length c] 24)) := (by repeat (first | assumption | exact Below.refl _ _ | apply bw_alloc | apply bw_drew | apply bw_drewN | apply bw_later | apply bw_step))
  have bx := Box.new w [.slice A cs.length c] 24
  go_enter Tryd.func3, Tryd.ntmps3
  go_wp2_with fail
  refine (check_some A c cs _ hl hcc (hsl.mono hb0) hok hlk (hkw.mono hb0)).mono ?_
  rintro e w1 ⟨n1, m1, rfl, hb1, hV⟩
  have HV := Lib.hid hV
  clear hV
  have hbw1 := below_step hb0 hb1
  have bx1 := bx.mono hb1
  clear bx hb0 hb1
  by_cases hm0 : m1 = 0
  rotate_left
  · have hq : (m1 != 0) = true := by simpa using hm0
    clear hm0
    go_wp2_with fail
    refine (awake_any _).mono ?_
    rintro e w2 ⟨rfl, hb2⟩
    go_wp2_with fail
    go_ret
    exact ⟨rfl, below_step hbw1 hb2⟩
  subst hm0
  have hv := Lib.hid (HV.out (by first | rfl | trivial))
  clear HV
  go_wp2_with fail
  go_loopw [7] (fun v wr => ∃ i : Nat, i ≤ cs.length ∧ v = .int .i64 i ∧ Box wr w.heap.size [.slice A cs.length c] 24 ∧ Below w.heap.size w wr) (fun v _ => cs.length - (intOf v).toNat)
  case atStart => exact ⟨0, Nat.zero_le _, rfl, bx1, hbw1⟩
  case round =>
    clear bx1 hbw1
    obtain ⟨i, hi, rfl, bx2, hbw2⟩ := hrel
    have x2 := bx2.cell 0 rfl
    have xl2 := bx2.lt
    by_cases hlt : i < cs.length
    rotate_left
    · go_wp2_with fail
      refine (awake_any _).mono ?_
      rintro e w3 ⟨rfl, hb3⟩
      go_wp2_with fail
      go_ret
      exact ⟨rfl, below_step hbw2 hb3⟩
    have HSO := Lib.hid (hv.out.subsOk hok.out.names.out cs[i].name m)
    have hoa := (hok.out _ (List.getElem_mem hlt)).1.1
    obtain ⟨b0, o0, A2, c2, A3, c3, hA, hbb, d0, d1, d2, d3, _⟩ := (hsl.mono hbw2).cls_at hlt
    subst hA
    have hl6 := subsL_len cs cs[i].name
    have hl7 := targetsL_len cs cs[i].name m
    clear d1 d2 d3
    go_upto_region 8 with fail
    refine wp_region_RW 9 (by kernel_rfl) (by kernel_rfl) ?_
    refine RW.chunk (f := 4) [0, 1, 3, 4, 5] (by kernel_rfl) ?_
    ((simp only [pickOps, List.filterMap, List.getElem?_toArray, List.getElem?_cons_zero, List.getElem?_cons_succ]); (repeat (go_big_quiet_step (fail))); refine wpQuiet_nil ?_)
    refine RW.single 2 rfl (by kernel_rfl) (by omega) ?_
    intro K hK
    go_wp2_with fail
    refine (subs_any _ c cs cs[i].name _ hl hcc (hsl.mono hbw2.drew) hok.out.names hoa).mono ?_
    rintro e w3 ⟨⟨v3, rfl, hown3⟩, hb3⟩
    have hbw3 := below_step hbw2.drew hb3
    obtain ⟨AS, cS, rfl, hcS, hsS⟩ := StrsV.of_own hown3
    go_wp2_with fail
    refine hK _ _ hb3 ?_
    clear hK
    refine RW.single 6 rfl (by kernel_rfl) (by omega) ?_
    intro K hK
    go_wp2_with fail
    refine (targets_any _ c cs cs[i].name m _ hl hcc (hsl.mono hbw3) hok.out.names hlk hoa).mono ?_
    rintro e w4 ⟨⟨v4, rfl, hown4⟩, hb4⟩
    have hbw4 := below_step hbw3 hb4
    obtain ⟨AT, cT, rfl, hcT, hsT⟩ := StrsV.of_own hown4
    have hsS4 := hsS.mono hb4
    have bx4 := (bx2.drew.mono hb3).mono hb4
    go_wp2_with fail
    refine hK _ _ hb4 ?_
    clear hK
    refine RW.chunk (f := 0) [7, 8] (by kernel_rfl) ?_
    ((simp only [pickOps, List.filterMap, List.getElem?_toArray, List.getElem?_cons_zero, List.getElem?_cons_succ]); (repeat (go_big_quiet_step (fail))); refine wpQuiet_nil ?_)
    (refine RW.done (by kernel_rfl) (by kernel_rfl) ?_)
    clear hown3 hown4 hsS hcS hcT x2 xl2 d0 hoa
    generalize subsL cs cs[i].name = S at *
    generalize targetsL cs cs[i].name m = T at *
    go_wp2_with fail
    go_loopw [11, 12] (fun v11 v12 wr => ∃ k : Nat, k ≤ S.length ∧ v12 = .int .i64 k ∧ Own cellsStr 1 w4.heap.size 9 wr v11 ((S.take k).map (inS cs m)) ∧ Below w4.heap.size w4 wr) (fun _ v12 _ => S.length - (intOf v12).toNat)
    case atStart => exact ⟨0, Nat.zero_le _, rfl, Own.nil, Below.refl _ _⟩
    case round =>
      obtain ⟨k, hk, rfl, hown, hbw5⟩ := hrel
      have bx5 := bx4.mono hbw5
      have x5 := bx5.cell 0 rfl
      have xl5 := bx5.lt
      by_cases hkS : k < S.length
      · have hoS := HSO.out.ok k hkS
        have hbwr := below_step hbw4 hbw5
        have HM0 : Hid ((S.take (k + 1)).map (inS cs m) = (S.take k).map (inS cs m) ++ [inS cs m S[k]]) := by show _ = _; rw [List.take_succ_eq_append_getElem hkS, List.map_append]; rfl
        obtain ⟨bS, oS, hAS, hbS, dS⟩ := (hsS4.mono hbw5).str_at hkS
        subst hAS
        rcases HSO.out.disp k hkS with ⟨hno, hin⟩ | ⟨j, q, hj, hq, hD⟩
        · have HNO := Lib.hid hno
          have HNR : Hid (nearS cs m (up cs (fnd cs S[k])) = ⟨#[]⟩) := hin
          have HM : Hid ((S.take (k + 1)).map (inS cs m) = (S.take k).map (inS cs m) ++ [⟨#[]⟩]) := HM0.out.trans (by rw [hin]; rfl)
          clear hno hin HM0
          go_upto_region 13 with fail
          go_cut [13, 14, 15] (fun s13 s14 s15 wx => s13 = .string ⟨#[]⟩ ∧ s15 = .bool false ∧ (∃ bG : Nat, s14 = .pointer (some ⟨bG, 0, none⟩)) ∧ Below wr.heap.size wr wx)
          case first =>
            refine wp_region_RZ 15 (by kernel_rfl) (by kernel_rfl) ?_
            refine RZ.chunk (f := 9) [0, 1, 2, 3, 4, 5] (by kernel_rfl) ?_
            ((simp only [pickOps, List.filterMap, List.getElem?_toArray, List.getElem?_cons_zero, List.getElem?_cons_succ]); (repeat (go_big_quiet_step (fail))); refine wpQuiet_nil ?_)
            refine RZ.both 6 11 rfl rfl (by kernel_rfl) (by omega) (by omega) ?_ ?_
            · intro K hK
              go_wp2_with fail
              refine (lookup_any _ c cs S[k] m _ hl hcc (hsl.mono hbwr.drew) hok.out.names hlk hoS).mono ?_
              rintro e w6 ⟨hR, hb6⟩
              have hb6' : Below wr.heap.size wr w6 := below_step (Below.refl _ _).drew hb6
              have he := hR.no HNO.out
              subst he
              go_wp2_with fail
              refine hK _ _ hb6 ?_
              clear hK
              refine RZ.chunk (f := 4) [7, 8, 9, 10] (by kernel_rfl) ?_
              ((simp only [pickOps, List.filterMap, List.getElem?_toArray, List.getElem?_cons_zero, List.getElem?_cons_succ]); (repeat (go_big_quiet_step (fail))); refine wpQuiet_nil ?_)
              refine RZ.single 11 rfl (by kernel_rfl) (by omega) ?_
              intro K hK
              go_wp2_with fail
              refine hK _ _ (bw_alloc hb6) ?_
              clear hK
              refine RZ.chunk (f := 2) [12] (by kernel_rfl) ?_
              ((simp only [pickOps, List.filterMap, List.getElem?_toArray, List.getElem?_cons_zero, List.getElem?_cons_succ]); (repeat (go_big_quiet_step (fail))); refine wpQuiet_nil ?_)
              refine RZ.single 13 rfl (by kernel_rfl) (by omega) ?_
              intro K hK
              go_wp2_with fail
              refine hK _ _ (bw_alloc hb6) ?_
              clear hK
              refine RZ.chunk (f := 0) [14] (by kernel_rfl) ?_
              ((simp only [pickOps, List.filterMap, List.getElem?_toArray, List.getElem?_cons_zero, List.getElem?_cons_succ]); (repeat (go_big_quiet_step (fail))); refine wpQuiet_nil ?_)
              (refine RZ.done (by kernel_rfl) (by kernel_rfl) ?_)
              go_wp2_with fail
              go_meet
              exact ⟨rfl, rfl, ⟨_, rfl⟩, bw_alloc hb6'⟩
            · intro K hK
              go_wp2_with fail
              refine hK _ _ (bw_alloc (Below.refl _ _)) ?_
              clear hK
              generalize hW : World.drew (World.alloc _ _) = W2
              have hbz : Below wr.drew.heap.size wr.drew W2 := by rw [← hW]; exact bw_alloc (Below.refl _ _)
              have hbz2 : Below wr.heap.size wr W2 := below_step (Below.refl _ _).drew hbz
              have byz : Box W2 wr.heap.size [.string ⟨#[]⟩, .bool false, .slice none 0 0, .string ⟨#[]⟩] 37 := by rw [← hW]; exact (Box.new _ _ _).drew
              clear hW
              refine RZ.single 6 rfl (by kernel_rfl) (by omega) ?_
              intro K hK
              go_wp2_with fail
              refine (lookup_any _ c cs S[k] m _ hl hcc (hsl.mono (below_step hbwr hbz2)) hok.out.names hlk hoS).mono ?_
              rintro e w6 ⟨hR, hb6⟩
              have hb7 := below_step hbz hb6
              have hb7' : Below wr.heap.size wr w6 := below_step hbz2 hb6
              have by6 := byz.mono hb6
              have he := hR.no HNO.out
              subst he
              go_wp2_with fail
              refine hK _ _ hb7 ?_
              clear hK
              refine RZ.chunk (f := 2) [7, 8, 9, 10, 12] (by kernel_rfl) ?_
              ((simp only [pickOps, List.filterMap, List.getElem?_toArray, List.getElem?_cons_zero, List.getElem?_cons_succ]); (repeat (go_big_quiet_step (fail))); refine wpQuiet_nil ?_)
              have yl6 := by6.lt
              have yf := fun i => by6.free i
              have y0 := by6.cell 0 rfl
              have y1 := by6.cell 1 rfl
              have y2 := by6.cell 2 rfl
              have y3 := by6.cell 3 rfl
              obtain ⟨by9, hg9⟩ := by6.store4 (.string ⟨#[]⟩) (.bool false) (.slice none 0 0) (.string ⟨#[]⟩)
              have hb9 := hb7'.grown hg9 hb7'.size (fun k hk => by injection hk with hk; omega)
              have hb9d := hb7.grown hg9 hb7.size (fun k hk => by injection hk with hk; have : wr.drew.heap.size = wr.heap.size := rfl; omega)
              refine RZ.single 13 rfl (by kernel_rfl) (by omega) ?_
              intro K hK
              go_wp2_with fail
              refine hK _ _ hb9d ?_
              clear hK
              refine RZ.chunk (f := 0) [14] (by kernel_rfl) ?_
              ((simp only [pickOps, List.filterMap, List.getElem?_toArray, List.getElem?_cons_zero, List.getElem?_cons_succ]); (repeat (go_big_quiet_step (fail))); refine wpQuiet_nil ?_)
              (refine RZ.done (by kernel_rfl) (by kernel_rfl) ?_)
              go_wp2_with fail
              go_meet
              exact ⟨rfl, rfl, ⟨_, rfl⟩, hb9⟩
          case rest =>
            obtain ⟨rfl, rfl, ⟨bG, rfl⟩, hb6⟩ := hcut
            have hbw6 := below_step hbwr hb6
            have bx6 := bx5.mono hb6
            have x6 := bx6.cell 0 rfl
            have xl6 := bx6.lt
            have dS6 := keptC dS hbS hb6
            have hbS6 := Nat.lt_of_lt_of_le hbS hb6.size
            have hbk : Below w4.heap.size w4 wc := below_step hbw5 hb6
            clear x5 xl5 dS
            go_wp2_with fail
            refine wp_region_RW 10 (by kernel_rfl) (by kernel_rfl) ?_
            refine RW.chunk (f := 3) [0, 1, 2, 3, 4, 5, 7] (by kernel_rfl) ?_
            ((simp only [pickOps, List.filterMap, List.getElem?_toArray, List.getElem?_cons_zero, List.getElem?_cons_succ]); (repeat (go_big_quiet_step (fail))); refine wpQuiet_nil ?_)
            refine RW.single 6 rfl (by kernel_rfl) (by omega) ?_
            intro K hK
            go_wp2_with fail
            refine (refSupers_any _ c cs S[k] _ hl (hsl.mono hbw6.drew) hv).mono ?_
            rintro e w7 ⟨⟨v7, rfl, hown7⟩, hb7⟩
            have hbw7 := below_step hbw6.drew hb7
            obtain ⟨A8, c8, rfl, hc8, hs8⟩ := StrsV.of_own hown7
            go_wp2_with fail
            refine hK _ _ hb7 ?_
            clear hK
            refine RW.single 8 rfl (by kernel_rfl) (by omega) ?_
            intro K hK
            go_wp2_with fail
            refine (nearest_any _ A8 c c8 cs (up cs (fnd cs S[k])) (supersL cs S[k]) m _ hl (hsl.mono hbw7) hlk (by have := supersL_len cs S[k]; omega) rfl hs8 (chR_bd (fnd_bd cs S[k]).2).1 (fun x hx => by have hb := (chR_bd (cs := cs) (fnd_bd cs S[k]).2).1 x hx; exact hv.out.fnd_nm hb.1 hb.2)).mono ?_
            rintro e w8 ⟨rfl, hb8⟩
            rw [HNR.out]
            have hbw8 := below_step hbw7 hb8
            have hb68 : Below wc.heap.size wc w8 := below_step (below_step (Below.refl _ _).drew hb7) hb8
            go_wp2_with fail
            refine hK _ _ hb8 ?_
            clear hK
            refine RW.chunk (f := 0) [9] (by kernel_rfl) ?_
            ((simp only [pickOps, List.filterMap, List.getElem?_toArray, List.getElem?_cons_zero, List.getElem?_cons_succ]); (repeat (go_big_quiet_step (fail))); refine wpQuiet_nil ?_)
            (refine RW.done (by kernel_rfl) (by kernel_rfl) ?_)
            have hown8 := hown.mono (below_step hb6 hb68)
            have hbk8 := below_step hbk hb68
            have hml : ((S.take k).map (inS cs m)).length ≤ k := by rw [List.length_map, List.length_take]; omega
            have hsz8 := hbk8.size
            clear x6 xl6 dS6 hown7 hs8
            go_wp2_with (at_builtin; refine wpList_pushG strsTy cellsStr_ok rfl (.tmp 96) (.tmp 98) rfl w4.heap.size _ _ rfl (Own.alloc hown8 _) ⟨#[]⟩ _ _ rfl (cells_one_new _ _ _) (by unfold maxLen; omega) (by omega) ?_ ?_; (simp; omega); intro v9 w9 hown9 hb9 hg9)
            go_roundw
            case rel => exact ⟨k + 1, by omega, by go_num, by rw [HM.out]; exact hown9, (bw_alloc hbk8).trans hb9⟩
            case measure => simp [intOf]; omega
        · have HD := Lib.hid hD
          have HNR : Hid (nearS cs m (up cs (fnd cs S[k])) = cs[j].name) := hD.near
          have HM : Hid ((S.take (k + 1)).map (inS cs m) = (S.take k).map (inS cs m) ++ [cs[j].name]) := HM0.out.trans (by rw [hD.near])
          have hfull := hD.full
          have hfull2 : ¬ cs[j].name.toList = [] := by simpa using hfull
          have hnm1 : (cs[j].methods[q].name.toList == m.toList) = true := eqS_iff.2 hD.name
          have hnm2 : (cs[j].methods[q].name.toList != m.toList) = false := by rw [hD.name]; simp
          clear hD HM0
          go_upto_region 13 with fail
          go_cut [13, 14, 15] (fun s13 s14 s15 wx => s13 = .string cs[j].name ∧ s15 = .bool true ∧ (∃ (bG : Nat) (v : Value), s14 = .pointer (some ⟨bG, 0, none⟩) ∧ Box wx bG [.string cs[j].methods[q].name, .bool cs[j].methods[q].static, v, .string cs[j].methods[q].result] 37) ∧ Below wr.heap.size wr wx)
          case first =>
            refine wp_region_RZ 15 (by kernel_rfl) (by kernel_rfl) ?_
            refine RZ.chunk (f := 9) [0, 1, 2, 3, 4, 5] (by kernel_rfl) ?_
            ((simp only [pickOps, List.filterMap, List.getElem?_toArray, List.getElem?_cons_zero, List.getElem?_cons_succ]); (repeat (go_big_quiet_step (fail))); refine wpQuiet_nil ?_)
            refine RZ.both 6 11 rfl rfl (by kernel_rfl) (by omega) (by omega) ?_ ?_
            · intro K hK
              go_wp2_with fail
              refine (lookup_any _ c cs S[k] m _ hl hcc (hsl.mono hbwr.drew) hok.out.names hlk hoS).mono ?_
              rintro e w6 ⟨hR, hb6⟩
              have hb6' : Below wr.heap.size wr w6 := below_step (Below.refl _ _).drew hb6
              obtain ⟨v, he, hvv⟩ := hR.yes j q hj hq HD.out.look
              subst he
              obtain ⟨A7, c7, rfl, _, _⟩ := hvv
              go_wp2_with fail
              refine hK _ _ hb6 ?_
              clear hK
              refine RZ.chunk (f := 4) [7, 8, 9, 10] (by kernel_rfl) ?_
              ((simp only [pickOps, List.filterMap, List.getElem?_toArray, List.getElem?_cons_zero, List.getElem?_cons_succ]); (repeat (go_big_quiet_step (fail))); refine wpQuiet_nil ?_)
              refine RZ.single 11 rfl (by kernel_rfl) (by omega) ?_
              intro K hK
              go_wp2_with fail
              refine hK _ _ (bw_alloc hb6) ?_
              clear hK
              refine RZ.chunk (f := 2) [12] (by kernel_rfl) ?_
              ((simp only [pickOps, List.filterMap, List.getElem?_toArray, List.getElem?_cons_zero, List.getElem?_cons_succ]); (repeat (go_big_quiet_step (fail))); refine wpQuiet_nil ?_)
              refine RZ.single 13 rfl (by kernel_rfl) (by omega) ?_
              intro K hK
              go_wp2_with fail
              refine hK _ _ (bw_alloc hb6) ?_
              clear hK
              refine RZ.chunk (f := 0) [14] (by kernel_rfl) ?_
              ((simp only [pickOps, List.filterMap, List.getElem?_toArray, List.getElem?_cons_zero, List.getElem?_cons_succ]); (repeat (go_big_quiet_step (fail))); refine wpQuiet_nil ?_)
              (refine RZ.done (by kernel_rfl) (by kernel_rfl) ?_)
              go_wp2_with fail
              go_meet
              exact ⟨rfl, rfl, ⟨_, _, rfl, Box.new _ _ _⟩, bw_alloc hb6'⟩
            · intro K hK
              go_wp2_with fail
              refine hK _ _ (bw_alloc (Below.refl _ _)) ?_
              clear hK
              generalize hW : World.drew (World.alloc _ _) = W2
              have hbz : Below wr.drew.heap.size wr.drew W2 := by rw [← hW]; exact bw_alloc (Below.refl _ _)
              have hbz2 : Below wr.heap.size wr W2 := below_step (Below.refl _ _).drew hbz
              have byz : Box W2 wr.heap.size [.string ⟨#[]⟩, .bool false, .slice none 0 0, .string ⟨#[]⟩] 37 := by rw [← hW]; exact (Box.new _ _ _).drew
              clear hW
              refine RZ.single 6 rfl (by kernel_rfl) (by omega) ?_
              intro K hK
              go_wp2_with fail
              refine (lookup_any _ c cs S[k] m _ hl hcc (hsl.mono (below_step hbwr hbz2)) hok.out.names hlk hoS).mono ?_
              rintro e w6 ⟨hR, hb6⟩
              have hb7 := below_step hbz hb6
              have hb7' : Below wr.heap.size wr w6 := below_step hbz2 hb6
              have by6 := byz.mono hb6
              obtain ⟨v, he, hvv⟩ := hR.yes j q hj hq HD.out.look
              subst he
              obtain ⟨A7, c7, rfl, _, _⟩ := hvv
              go_wp2_with fail
              refine hK _ _ hb7 ?_
              clear hK
              refine RZ.chunk (f := 2) [7, 8, 9, 10, 12] (by kernel_rfl) ?_
              ((simp only [pickOps, List.filterMap, List.getElem?_toArray, List.getElem?_cons_zero, List.getElem?_cons_succ]); (repeat (go_big_quiet_step (fail))); refine wpQuiet_nil ?_)
              have yl6 := by6.lt
              have yf := fun i => by6.free i
              have y0 := by6.cell 0 rfl
              have y1 := by6.cell 1 rfl
              have y2 := by6.cell 2 rfl
              have y3 := by6.cell 3 rfl
              obtain ⟨by9, hg9⟩ := by6.store4 (.string cs[j].methods[q].name) (.bool cs[j].methods[q].static) (.slice A7 cs[j].methods[q].params.length c7) (.string cs[j].methods[q].result)
              have hb9 := hb7'.grown hg9 hb7'.size (fun k hk => by injection hk with hk; omega)
              have hb9d := hb7.grown hg9 hb7.size (fun k hk => by injection hk with hk; have : wr.drew.heap.size = wr.heap.size := rfl; omega)
              refine RZ.single 13 rfl (by kernel_rfl) (by omega) ?_
              intro K hK
              go_wp2_with fail
              refine hK _ _ hb9d ?_
              clear hK
              refine RZ.chunk (f := 0) [14] (by kernel_rfl) ?_
              ((simp only [pickOps, List.filterMap, List.getElem?_toArray, List.getElem?_cons_zero, List.getElem?_cons_succ]); (repeat (go_big_quiet_step (fail))); refine wpQuiet_nil ?_)
              (refine RZ.done (by kernel_rfl) (by kernel_rfl) ?_)
              go_wp2_with fail
              go_meet
              exact ⟨rfl, rfl, ⟨_, _, rfl, by9⟩, hb9⟩
          case rest =>
            obtain ⟨rfl, rfl, ⟨bG, vG, rfl, byG⟩, hb6⟩ := hcut
            have hbw6 := below_step hbwr hb6
            have bx6 := bx5.mono hb6
            have x6 := bx6.cell 0 rfl
            have xl6 := bx6.lt
            have dS6 := keptC dS hbS hb6
            have hbS6 := Nat.lt_of_lt_of_le hbS hb6.size
            have hbk : Below w4.heap.size w4 wc := below_step hbw5 hb6
            clear x5 xl5 dS
            go_wp2_with fail
            refine wp_region_RW 10 (by kernel_rfl) (by kernel_rfl) ?_
            refine RW.chunk (f := 3) [0, 1, 2, 3, 4, 5, 7] (by kernel_rfl) ?_
            ((simp only [pickOps, List.filterMap, List.getElem?_toArray, List.getElem?_cons_zero, List.getElem?_cons_succ]); (repeat (go_big_quiet_step (fail))); refine wpQuiet_nil ?_)
            refine RW.single 6 rfl (by kernel_rfl) (by omega) ?_
            intro K hK
            go_wp2_with fail
            refine (refSupers_any _ c cs S[k] _ hl (hsl.mono hbw6.drew) hv).mono ?_
            rintro e w7 ⟨⟨v7, rfl, hown7⟩, hb7⟩
            have hbw7 := below_step hbw6.drew hb7
            obtain ⟨A8, c8, rfl, hc8, hs8⟩ := StrsV.of_own hown7
            go_wp2_with fail
            refine hK _ _ hb7 ?_
            clear hK
            refine RW.single 8 rfl (by kernel_rfl) (by omega) ?_
            intro K hK
            go_wp2_with fail
            refine (nearest_any _ A8 c c8 cs (up cs (fnd cs S[k])) (supersL cs S[k]) m _ hl (hsl.mono hbw7) hlk (by have := supersL_len cs S[k]; omega) rfl hs8 (chR_bd (fnd_bd cs S[k]).2).1 (fun x hx => by have hb := (chR_bd (cs := cs) (fnd_bd cs S[k]).2).1 x hx; exact hv.out.fnd_nm hb.1 hb.2)).mono ?_
            rintro e w8 ⟨rfl, hb8⟩
            rw [HNR.out]
            have hbw8 := below_step hbw7 hb8
            have hb68 : Below wc.heap.size wc w8 := below_step (below_step (Below.refl _ _).drew hb7) hb8
            go_wp2_with fail
            refine hK _ _ hb8 ?_
            clear hK
            refine RW.chunk (f := 0) [9] (by kernel_rfl) ?_
            ((simp only [pickOps, List.filterMap, List.getElem?_toArray, List.getElem?_cons_zero, List.getElem?_cons_succ]); (repeat (go_big_quiet_step (fail))); refine wpQuiet_nil ?_)
            (refine RW.done (by kernel_rfl) (by kernel_rfl) ?_)
            have hown8 := hown.mono (below_step hb6 hb68)
            have hbk8 := below_step hbk hb68
            have hml : ((S.take k).map (inS cs m)).length ≤ k := by rw [List.length_map, List.length_take]; omega
            have hsz8 := hbk8.size
            clear x6 xl6 dS6 hown7 hs8
            have by8 := byG.mono hb68
            have g0 := by8.cell 0 rfl
            have gl := by8.lt
            go_wp2_with fail
            refine (lawHas_any AT cT T cs[j].name _ (by omega) (hsT.mono hbk8)).mono ?_
            rintro e w10 ⟨rfl, rfl⟩
            rw [HD.out.has]
            go_wp2_with (at_builtin; refine wpList_pushG strsTy cellsStr_ok rfl (.tmp 96) (.tmp 98) rfl w4.heap.size _ _ rfl (Own.alloc hown8 _) cs[j].name _ _ rfl (cells_one_new _ _ _) (by unfold maxLen; omega) (by omega) ?_ ?_; (simp; omega); intro v9 w9 hown9 hb9 hg9)
            go_roundw
            case rel => exact ⟨k + 1, by omega, by go_num, by rw [HM.out]; exact hown9, (bw_alloc hbk8).trans hb9⟩
            case measure => simp [intOf]; omega
      · have HK : Hid ((S.take k).map (inS cs m) = S.map (inS cs m)) := by show _ = _; rw [List.take_of_length_le (by omega)]
        rw [HK.out] at hown
        have HUS := Lib.hid HSO.out.used
        have HAS := Lib.hid HSO.out.asc
        have hUl : (S.map (inS cs m)).length ≤ cs.length := by rw [List.length_map]; exact hl6
        generalize S.map (inS cs m) = U at *
        obtain ⟨AU, cU, rfl, hcU, hsU⟩ := StrsV.of_own hown
        clear hown HK x5 xl5
        go_wp2_with fail
        go_loopw [17] (fun v wq => ∃ t : Nat, t ≤ T.length ∧ v = .int .i64 t ∧ Below wr.heap.size wr wq) (fun v _ => T.length - (intOf v).toNat)
        case atStart => exact ⟨0, Nat.zero_le _, rfl, Below.refl _ _⟩
        case round =>
          obtain ⟨t, ht, rfl, hbq⟩ := hrel
          have hbq4 := below_step hbw5 hbq
          by_cases htT : t < T.length
          · obtain ⟨bT, oT, hAT, hbT, dT⟩ := (hsT.mono hbq4).str_at htT
            subst hAT
            have HU1 := Lib.hid (HUS.out t htT)
            by_cases ht0 : (0 : Int) < (t : Int)
            · obtain ⟨t', hti, htl, hasc⟩ : ∃ t' : Nat, (t : Int) - 1 = (t' : Int) ∧ ∃ htl : t' < T.length, Op.bytesLess T[t'].toList T[t].toList = true := by
                obtain ⟨t', rfl⟩ : ∃ t', t = t' + 1 := ⟨t - 1, by omega⟩
                exact ⟨t', by omega, by omega, HAS.out t' htT⟩
              have ht1 : 0 < t := by omega
              have ht2 : decide (0 < t) = true := decide_eq_true ht1
              have ht3 : decide ((0 : Int) < (t : Int)) = true := decide_eq_true ht0
              obtain ⟨bT2, oT2, hAT2, hbT2, dT2⟩ := (hsT.mono hbq4).str_at htl
              injection hAT2 with hAT2
              injection hAT2 with e1 e2
              subst e1 e2
              have htI : (t' : Int) < (T.length : Int) := by omega
              go_wp2_with fail
              refine wp_region_RW 23 (by kernel_rfl) (by kernel_rfl) ?_
              refine RW.chunk (f := 18) [0, 1, 2, 3, 4] (by kernel_rfl) ?_
              ((simp only [pickOps, List.filterMap, List.getElem?_toArray, List.getElem?_cons_zero, List.getElem?_cons_succ]); (repeat (go_big_quiet_step (fail))); refine wpQuiet_nil ?_)
              refine RW.single 5 rfl (by kernel_rfl) (by omega) ?_
              intro K hK
              go_wp2_with fail
              refine (lawHas_any AU cU U T[t] _ (by omega) (hsU.mono hbq.drew)).mono ?_
              rintro e w10 ⟨rfl, rfl⟩
              rw [HU1.out]
              go_wp2_with fail
              refine hK _ _ (Below.refl _ _) ?_
              clear hK
              refine RW.chunk (f := 0) [6, 7, 8, 9, 10, 11, 12, 13, 14, 15, 16, 17, 18, 19, 20, 21, 22] (by kernel_rfl) ?_
              ((simp only [pickOps, List.filterMap, List.getElem?_toArray, List.getElem?_cons_zero, List.getElem?_cons_succ]); (repeat (go_big_quiet_step (fail))); refine wpQuiet_nil ?_)
              (refine RW.done (by kernel_rfl) (by kernel_rfl) ?_)
              go_wp2_with fail
              go_roundw
              case rel => exact ⟨t + 1, by omega, by go_num, hbq.drew⟩
              case measure => simp [intOf]; omega
            · have ht1 : ¬ 0 < t := by omega
              have ht2 : decide (0 < t) = false := decide_eq_false ht1
              have ht3 : decide ((0 : Int) < (t : Int)) = false := decide_eq_false ht0
              go_wp2_with fail
              refine wp_region_RW 23 (by kernel_rfl) (by kernel_rfl) ?_
              refine RW.chunk (f := 18) [0, 1, 2, 3, 4] (by kernel_rfl) ?_
              ((simp only [pickOps, List.filterMap, List.getElem?_toArray, List.getElem?_cons_zero, List.getElem?_cons_succ]); (repeat (go_big_quiet_step (fail))); refine wpQuiet_nil ?_)
              refine RW.single 5 rfl (by kernel_rfl) (by omega) ?_
              intro K hK
              go_wp2_with fail
              refine (lawHas_any AU cU U T[t] _ (by omega) (hsU.mono hbq.drew)).mono ?_
              rintro e w10 ⟨rfl, rfl⟩
              rw [HU1.out]
              go_wp2_with fail
              refine hK _ _ (Below.refl _ _) ?_
              clear hK
              refine RW.chunk (f := 0) [6, 7, 8, 9, 10, 11, 12, 13, 14, 15, 16, 17, 18, 19, 20, 21, 22] (by kernel_rfl) ?_
              ((simp only [pickOps, List.filterMap, List.getElem?_toArray, List.getElem?_cons_zero, List.getElem?_cons_succ]); (repeat (go_big_quiet_step (fail))); refine wpQuiet_nil ?_)
              (refine RW.done (by kernel_rfl) (by kernel_rfl) ?_)
              go_wp2_with fail
              go_roundw
              case rel => exact ⟨t + 1, by omega, by go_num, hbq.drew⟩
              case measure => simp [intOf]; omega
          · go_wp2_with fail
            go_roundw
            case rel => exact ⟨i + 1, by omega, by go_num, bx5.mono hbq, below_step (below_step hbw4 hbw5) hbq⟩
            case measure => simp [intOf]; omega
end Go.Proofs.YtafincpkehlcfaaDoor
