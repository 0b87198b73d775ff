/-
  Chapter 10: the walk of the law HierOrder.
-/
import Derived.Test.YtafincpkehlcfaaDoorHierQ
namespace Go.Proofs.YtafincpkehlcfaaDoor
open Go.RowKit
set_option linter.unusedVariables false

set_option maxRecDepth 100000 in
set_option maxHeartbeats 4000000 in
theorem walk_HierOrder (w : World) (A : Option Addr) (c : Nat) (cs : List Cls) (a b d : ByteArray) (hl : cs.length ≤ 8796093022208) (hcc : cs.length ≤ c) (hsl : Sl Lay.cls w A cs) (hok : Hid (StrOk cs)) (hlk : Hid (LensOk cs)) (ha : okStr a) (hb : okStr b) (hd : okStr d) (hkw : KwAt w) :
    Calls Tryd.prog 4 #[.agg #[.slice A cs.length c], .string a, .string b, .string d] w fun e w' => e = .returned (.bool true) ∧ Below w.heap.size w w' := by
  have hb0 : Below w.heap.size w (w.alloc (.cells #[.slice A cs.length c] 24)) := (by repeat (first | assumption | exact Below.refl _ _ | apply bw_alloc | apply bw_drew | apply bw_drewN | apply bw_later | apply bw_step))
  have bx := Box.new w [.slice A cs.length c] 24
  have HS := fun W (hW : Below w.heap.size w W) x y hx => isSub_any A c cs x y W hl hcc (hsl.mono hW) hok.out.names hx
  go_enter Tryd.func4, Tryd.ntmps4
  go_wp2_with fail
  refine (check_some A c cs _ hl hcc (hsl.mono hb0) hok hlk (hkw.mono hb0)).mono ?_
  rintro e w1 ⟨n1, m1, rfl, hb1, hV⟩
  have HV := Lib.hid hV
  clear hV
  have hbw1 := below_step hb0 hb1
  have bx1 := bx.mono hb1
  clear bx hb0 hb1
  by_cases hm : m1 = 0
  rotate_left
  · have hq : (m1 != 0) = true := by simpa using hm
    clear hm
    go_wp2_with fail
    refine (awake_any _).mono ?_
    rintro e w2 ⟨rfl, hb2⟩
    go_wp2_with fail
    go_ret
    exact ⟨rfl, below_step hbw1 hb2⟩
  subst hm
  have hv := HV.out (by first | rfl | trivial)
  clear HV
  go_upto_region 4 with fail
  go_cut [53] (fun v wx => v = .bool false ∧ Box wx w.heap.size [.slice A cs.length c] 24 ∧ Below w.heap.size w wx)
  case first =>
    have x0 := bx1.cell 0 rfl
    have xl := bx1.lt
    go_wp2_with fail
    refine (HS _ hbw1 a b ha).mono ?_
    rintro e w2 ⟨rfl, hb2⟩
    have hbw2 := below_step hbw1 hb2
    have bx2 := bx1.mono hb2
    have x2 := bx2.cell 0 rfl
    have xl2 := bx2.lt
    cases h1 : hasS (supersL cs a) b with
    | false =>
      cases hab : (a.toList == b.toList) with
      | true =>
        go_wp2_with fail
        go_meet
        exact ⟨rfl, bx2, hbw2⟩
      | false =>
        have hnab : ¬ a.toList = b.toList := by simpa using hab
        go_wp2_with fail
        refine (HS _ hbw2 a b ha).mono ?_
        rintro e w6 ⟨rfl, hb6⟩
        rw [h1]
        go_wp2_with fail
        go_meet
        exact ⟨rfl, bx2.mono hb6, below_step hbw2 hb6⟩
    | true =>
      go_wp2_with fail
      refine (HS _ hbw2 b d hb).mono ?_
      rintro e w3 ⟨rfl, hb3⟩
      have hbw3 := below_step hbw2 hb3
      have bx3 := bx2.mono hb3
      have x3 := bx3.cell 0 rfl
      have xl3 := bx3.lt
      have HANTI : Hid ((a.toList == b.toList) = false → hasS (supersL cs b) a = false) := fun hne => by
        cases h4 : hasS (supersL cs b) a with
        | false => rfl
        | true =>
          have := hv.sub_anti h1 h4
          subst this
          simp at hne
      cases h2 : hasS (supersL cs b) d with
      | false =>
        cases hab : (a.toList == b.toList) with
        | true =>
          go_wp2_with fail
          go_meet
          exact ⟨rfl, bx3, hbw3⟩
        | false =>
          have hnab : ¬ a.toList = b.toList := by simpa using hab
          have h4 := Lib.hid (HANTI.out hab)
          go_wp2_with fail
          refine (HS _ hbw3 a b ha).mono ?_
          rintro e w6 ⟨rfl, hb6⟩
          rw [h1]
          have hbw6 := below_step hbw3 hb6
          have bx6 := bx3.mono hb6
          have x6 := bx6.cell 0 rfl
          have xl6 := bx6.lt
          go_wp2_with fail
          refine (HS _ hbw6 b a hb).mono ?_
          rintro e w7 ⟨rfl, hb7⟩
          rw [h4.out]
          go_wp2_with fail
          go_meet
          exact ⟨rfl, bx6.mono hb7, below_step hbw6 hb7⟩
      | true =>
        have h3 := Lib.hid (hv.sub_trans h1 h2)
        go_wp2_with fail
        refine (HS _ hbw3 a d ha).mono ?_
        rintro e w4 ⟨rfl, hb4⟩
        rw [h3.out]
        have hbw4 := below_step hbw3 hb4
        have bx4 := bx3.mono hb4
        have x4 := bx4.cell 0 rfl
        have xl4 := bx4.lt
        cases hab : (a.toList == b.toList) with
        | true =>
          go_wp2_with fail
          go_meet
          exact ⟨rfl, bx4, hbw4⟩
        | false =>
          have hnab : ¬ a.toList = b.toList := by simpa using hab
          have h4 := Lib.hid (HANTI.out hab)
          go_wp2_with fail
          refine (HS _ hbw4 a b ha).mono ?_
          rintro e w6 ⟨rfl, hb6⟩
          rw [h1]
          have hbw6 := below_step hbw4 hb6
          have bx6 := bx4.mono hb6
          have x6 := bx6.cell 0 rfl
          have xl6 := bx6.lt
          go_wp2_with fail
          refine (HS _ hbw6 b a hb).mono ?_
          rintro e w7 ⟨rfl, hb7⟩
          rw [h4.out]
          go_wp2_with fail
          go_meet
          exact ⟨rfl, bx6.mono hb7, below_step hbw6 hb7⟩
  case rest =>
    obtain ⟨rfl, bx2, hbw2⟩ := hcut
    have x0 := bx2.cell 0 rfl
    have xl := bx2.lt
    have HREF := Lib.hid (hv.sub_refl a)
    have HHS := Lib.hid (hv.has_subs a b)
    go_wp2_with fail
    refine wp_region_RW 21 (by kernel_rfl) (by kernel_rfl) ?_
    refine RW.chunk (f := 16) [0, 1, 2, 4, 5] (by kernel_rfl) ?_
    ((simp only [pickOps, List.filterMap, List.getElem?_toArray, List.getElem?_cons_zero, List.getElem?_cons_succ]); (repeat (go_big_quiet_step (fail))); refine wpQuiet_nil ?_)
    refine RW.single 3 rfl (by kernel_rfl) (by omega) ?_
    intro K hK
    go_wp2_with fail
    refine (HS _ hbw2.drew a a ha).mono ?_
    rintro e w3 ⟨rfl, hb3⟩
    rw [HREF.out]
    have hbw3 := below_step hbw2.drew hb3
    have bx3 := bx2.drew.mono hb3
    go_wp2_with fail
    refine hK _ _ hb3 ?_
    clear hK x0 xl
    refine RW.single 6 rfl (by kernel_rfl) (by omega) ?_
    intro K hK
    go_wp2_with fail
    refine (find_any A c cs a _ (by omega) (hsl.mono hbw3)).mono ?_
    rintro e w4 ⟨rfl, hb4⟩
    change (Below w3.heap.size w3 w4) at hb4
    have hbw4 := below_step hbw3 hb4
    have bx4 := bx3.mono hb4
    have hfd : idxI (isCls a) cs = fnd cs a := rfl
    rw [hfd]
    clear hfd
    go_wp2_with fail
    refine hK _ _ hb4 ?_
    clear hK
    have x0 := bx4.cell 0 rfl
    have xl := bx4.lt
    refine RW.chunk (f := 11) [7, 8, 9] (by kernel_rfl) ?_
    ((simp only [pickOps, List.filterMap, List.getElem?_toArray, List.getElem?_cons_zero, List.getElem?_cons_succ]); (repeat (go_big_quiet_step (fail))); refine wpQuiet_nil ?_)
    refine RW.chunk (f := 5) [10, 11, 12, 14, 15, 17] (by kernel_rfl) ?_
    ((simp only [pickOps, List.filterMap, List.getElem?_toArray, List.getElem?_cons_zero, List.getElem?_cons_succ]); (repeat (go_big_quiet_step (fail))); refine wpQuiet_nil ?_)
    refine RW.single 13 rfl (by kernel_rfl) (by omega) ?_
    intro K hK
    go_wp2_with fail
    refine (HS _ hbw4 a b ha).mono ?_
    rintro e w5 ⟨rfl, hb5⟩
    have hbw5 := below_step hbw4 hb5
    have bx5 := bx4.mono hb5
    go_wp2_with fail
    refine hK _ _ hb5 ?_
    clear hK x0 xl
    refine RW.single 16 rfl (by kernel_rfl) (by omega) ?_
    intro K hK
    go_wp2_with fail
    refine (subs_any A c cs b _ hl hcc (hsl.mono hbw5) hok.out.names hb).mono ?_
    rintro e w6 ⟨⟨v6, rfl, hown6⟩, hb6⟩
    have hbw6 := below_step hbw5 hb6
    have bx6 := bx5.mono hb6
    have hl6 := subsL_len cs b
    obtain ⟨A6, c6, rfl, hc6, hs6⟩ := StrsV.of_own hown6
    go_wp2_with fail
    refine hK _ _ hb6 ?_
    clear hK
    refine RW.single 18 rfl (by kernel_rfl) (by omega) ?_
    intro K hK
    go_wp2_with fail
    refine (lawHas_any A6 c6 (subsL cs b) a _ (by omega) hs6).mono ?_
    rintro e w7 ⟨rfl, rfl⟩
    rw [HHS.out]
    go_wp2_with fail
    refine hK _ _ (Below.refl _ _) ?_
    clear hK
    refine RW.chunk (f := 0) [19, 20] (by kernel_rfl) ?_
    ((simp only [pickOps, List.filterMap, List.getElem?_toArray, List.getElem?_cons_zero, List.getElem?_cons_succ]); (repeat (go_big_quiet_step (fail))); refine wpQuiet_nil ?_)
    (refine RW.done (by kernel_rfl) (by kernel_rfl) ?_)
    have x0 := bx6.cell 0 rfl
    have xl := bx6.lt
    go_wp2_with fail
    refine (supers_any A c cs a _ hl hcc (hsl.mono hbw6) hok.out.names ha).mono ?_
    rintro e w8 ⟨⟨v8, rfl, hown8⟩, hb8⟩
    have hbw8 := below_step hbw6 hb8
    have bx8 := bx6.mono hb8
    have hl8 := supersL_len cs a
    have HTOP := Lib.hid (hv.top a)
    generalize supersL cs a = S at *
    clear x0 xl
    have x0 := bx8.cell 0 rfl
    have xl := bx8.lt
    obtain ⟨A8, c8, rfl, hc8, hs8⟩ := StrsV.of_own hown8
    clear hown8 hown6 hs6
    by_cases hS : S.length = 0
    · have hS' : ((S.length : Int) == 0) = true := by simp [hS]
      clear hS
      go_wp2_with fail
      refine wp_region_RW 23 (by kernel_rfl) (by kernel_rfl) ?_
      refine RW.chunk (f := 10) [0, 1, 2, 3, 4, 5, 6, 7, 8, 9, 10, 11, 12] (by kernel_rfl) ?_
      ((simp only [pickOps, List.filterMap, List.getElem?_toArray, List.getElem?_cons_zero, List.getElem?_cons_succ]); (repeat (go_big_quiet_step (fail))); refine wpQuiet_nil ?_)
      refine RW.single 13 rfl (by kernel_rfl) (by omega) ?_
      intro K hK
      go_wp2_with fail
      refine hK _ _ (Below.refl _ _) ?_
      clear hK
      refine RW.chunk (f := 3) [14, 15, 16, 17, 18, 19] (by kernel_rfl) ?_
      ((simp only [pickOps, List.filterMap, List.getElem?_toArray, List.getElem?_cons_zero, List.getElem?_cons_succ]); (repeat (go_big_quiet_step (fail))); refine wpQuiet_nil ?_)
      refine RW.single 20 rfl (by kernel_rfl) (by omega) ?_
      intro K hK
      go_wp2_with fail
      refine (awake_any _).mono ?_
      rintro e w9 ⟨rfl, hb9⟩
      go_wp2_with fail
      refine hK _ _ hb9 ?_
      clear hK
      refine RW.chunk (f := 0) [21, 22] (by kernel_rfl) ?_
      ((simp only [pickOps, List.filterMap, List.getElem?_toArray, List.getElem?_cons_zero, List.getElem?_cons_succ]); (repeat (go_big_quiet_step (fail))); refine wpQuiet_nil ?_)
      (refine RW.done (by kernel_rfl) (by kernel_rfl) ?_)
      go_wp2_with fail
      go_ret
      exact ⟨rfl, below_step hbw8.drew hb9⟩
    · have hS' : ((S.length : Int) == 0) = false := by simpa using hS
      have hpos : 0 < S.length := by omega
      have hne : S ≠ [] := fun h => hS (by rw [h]; rfl)
      obtain ⟨j, hj, hlast, hsup⟩ := HTOP.out hne
      rw [List.getLast_eq_getElem] at hlast
      obtain ⟨n, hn⟩ : ∃ n, S.length - 1 = n := ⟨_, rfl⟩
      have hnl : n < S.length := by omega
      have hlast' : S[n] = cs[j].name := by rw [← hlast]; simp only [hn]
      have hni : (S.length : Int) - 1 = (n : Int) := by omega
      obtain ⟨bS, oS, rfl, hbS, dS⟩ := hs8.str_at hnl
      rw [hlast'] at dS
      have hfj : fnd cs cs[j].name = j := (hv.cls j hj).first
      obtain ⟨b9, o9, A9, c9, A10, c10, rfl, hb9, d0, d1, d2, d3, _⟩ := hsl.cls_at hj
      have HSUP := Lib.hid hsup
      have HFJ := Lib.hid hfj
      clear hS hne hlast hlast' hn d0 d2 d3 HTOP hfj
      clear hsup
      have hnI : (n : Int) < (S.length : Int) := by omega
      go_wp2_with fail
      refine wp_region_RW 23 (by kernel_rfl) (by kernel_rfl) ?_
      refine RW.chunk (f := 10) [0, 1, 2, 3, 4, 5, 6, 7, 8, 9, 10, 11, 12] (by kernel_rfl) ?_
      ((simp only [pickOps, List.filterMap, List.getElem?_toArray, List.getElem?_cons_zero, List.getElem?_cons_succ]); (repeat (go_big_quiet_step (fail))); refine wpQuiet_nil ?_)
      refine RW.single 13 rfl (by kernel_rfl) (by omega) ?_
      intro K hK
      go_wp2_with fail
      refine (refFind_any _ c cs cs[j].name _ hl (hsl.mono hbw8.drew)).mono ?_
      rintro e w9 ⟨rfl, hb9'⟩
      rw [HFJ.out]
      have hbw9 := below_step hbw8.drew hb9'
      have d1' := keptC d1 hb9 hbw9
      have hsup := HSUP.out
      have hjI : (j : Int) < (cs.length : Int) := by omega
      have hb99 := Nat.lt_of_lt_of_le hb9 hbw9.size
      go_wp2_with fail
      refine hK _ _ hb9' ?_
      clear hK
      refine RW.chunk (f := 3) [14, 15, 16, 17, 18, 19] (by kernel_rfl) ?_
      ((simp only [pickOps, List.filterMap, List.getElem?_toArray, List.getElem?_cons_zero, List.getElem?_cons_succ]); (repeat (go_big_quiet_step (fail))); refine wpQuiet_nil ?_)
      refine RW.single 20 rfl (by kernel_rfl) (by omega) ?_
      intro K hK
      go_wp2_with fail
      refine (awake_any _).mono ?_
      rintro e w10 ⟨rfl, hb10⟩
      go_wp2_with fail
      refine hK _ _ hb10 ?_
      clear hK
      refine RW.chunk (f := 0) [21, 22] (by kernel_rfl) ?_
      ((simp only [pickOps, List.filterMap, List.getElem?_toArray, List.getElem?_cons_zero, List.getElem?_cons_succ]); (repeat (go_big_quiet_step (fail))); refine wpQuiet_nil ?_)
      (refine RW.done (by kernel_rfl) (by kernel_rfl) ?_)
      go_wp2_with fail
      go_ret
      exact ⟨rfl, below_step hbw9 hb10⟩
end Go.Proofs.YtafincpkehlcfaaDoor
