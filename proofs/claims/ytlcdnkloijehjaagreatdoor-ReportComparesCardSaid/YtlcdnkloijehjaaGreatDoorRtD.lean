/-
  Chapter 47: Compare, in the program and in the reference; the walk of the law ReportCompares.
-/
import Derived.Test.YtlcdnkloijehjaaGreatDoorRtC
import Derived.Test.YtlcdnkloijehjaaGreatDoorMr6
namespace Go.Proofs.YtlcdnkloijehjaaGreatDoor
open Go.RowKit
set_option linter.unusedVariables false

def RetCm (K0 K1 : List ByteArray) (w' : World) (e : Ending) : Prop := ∃ B4 c4 B5 c5, e = .returned (.tuple #[.slice B4 (minS K0 K1).length c4, .slice B5 (minS K1 K0).length c5]) ∧ Sl Lay.str w' B4 (minS K0 K1) ∧ Sl Lay.str w' B5 (minS K1 K0)
theorem RetSt.sl {w w' : World} {l : List ByteArray} {e : Ending} (h : RetSt w w' l e) : ∃ A c, e = .returned (.slice A l.length c) ∧ Sl Lay.str w' A l := by
  obtain ⟨v, rfl, ho⟩ := h
  obtain ⟨A, c, rfl, -, hs⟩ := ho.sl (L := Lay.str) rfl (fun x => rfl)
  exact ⟨A, c, rfl, hs⟩
theorem keysS_le {l : List Fnd} {n : Nat} (h : l.length ≤ n) : (keysS l).length ≤ n := Nat.le_trans (keysS_len l) h
set_option maxHeartbeats 8000000 in
set_option maxRecDepth 100000 in
theorem compare_any (a b : List Fnd) (A0 A1 A2 B0 B1 B2 : Option Addr) (c0 n1 c1 n2 c2 d0 m1 d1 m2 d2 : Nat) (w : World) (hg : Glo w) (hka : Hid (∀ x ∈ a, OkKey x)) (hkb : Hid (∀ x ∈ b, OkKey x)) (hla : a.length ≤ 1600000000000) (hlb : b.length ≤ 1600000000000) (hsa : Sl Lay.fnd w A0 a) (hsb : Sl Lay.fnd w B0 b) :
    Calls Tryz.prog 18 #[.agg #[.slice A0 a.length c0, .slice A1 n1 c1, .slice A2 n2 c2], .agg #[.slice B0 b.length d0, .slice B1 m1 d1, .slice B2 m2 d2]] w fun e w' => RetCm (keysS a) (keysS b) w' e ∧ Below w.heap.size w w' := by
  have HA := Lib.hid (fun W h => keys_any a A0 A1 A2 c0 n1 c1 n2 c2 W (hg.mono h) hka hla (hsa.mono h))
  have HB := Lib.hid (fun W h => keys_any b B0 B1 B2 d0 m1 d1 m2 d2 W (hg.mono h) hkb hlb (hsb.mono h))
  have bx1 : Box ((w.alloc (.cells #[.slice A0 a.length c0, .slice A1 n1 c1, .slice A2 n2 c2] 26)).alloc (.cells #[.slice B0 b.length d0, .slice B1 m1 d1, .slice B2 m2 d2] 26)) w.heap.size [.slice A0 a.length c0, .slice A1 n1 c1, .slice A2 n2 c2] 26 := (by repeat (first | (refine Box.at ?_; (simp; done)) | apply Box.drew | apply Box.alloc | assumption))
  have by1 : Box ((w.alloc (.cells #[.slice A0 a.length c0, .slice A1 n1 c1, .slice A2 n2 c2] 26)).alloc (.cells #[.slice B0 b.length d0, .slice B1 m1 d1, .slice B2 m2 d2] 26)) (w.heap.size + 1) [.slice B0 b.length d0, .slice B1 m1 d1, .slice B2 m2 d2] 26 := (by repeat (first | (refine Box.at ?_; (simp; done)) | apply Box.drew | apply Box.alloc | assumption))
  have hb0 : Below w.heap.size w ((w.alloc (.cells #[.slice A0 a.length c0, .slice A1 n1 c1, .slice A2 n2 c2] 26)).alloc (.cells #[.slice B0 b.length d0, .slice B1 m1 d1, .slice B2 m2 d2] 26)) := (by repeat (first | assumption | exact Below.refl _ _ | apply bw_alloc | apply bw_drew | apply bw_drewN | apply bw_later | apply bw_step))
  have hK0 := Lib.hid (keysS_asc a)
  have hK1 := Lib.hid (keysS_asc b)
  have hL0 := keysS_le hla
  have hL1 := keysS_le hlb
  generalize keysS a = K0 at *
  generalize keysS b = K1 at *
  clear hsa hsb hka hkb hg
  go_enter Tryz.func18, Tryz.ntmps18
  go_upto_region 1 with fail
  generalize World.alloc (World.alloc w _) _ = w1 at *
  have p0 := bx1.cell 0 rfl
  have p1 := bx1.cell 1 rfl
  have p2 := bx1.cell 2 rfl
  have pl := bx1.lt
  have q0 := by1.cell 0 rfl
  have q1 := by1.cell 1 rfl
  have q2 := by1.cell 2 rfl
  have ql := by1.lt
  go_cut [6, 7] (fun v6 v7 wx => ∃ A6 c6 A7 c7, v6 = .slice A6 K0.length c6 ∧ v7 = .slice A7 K1.length c7 ∧ Sl Lay.str wx A6 K0 ∧ Sl Lay.str wx A7 K1 ∧ Below w.heap.size w wx)
  case first =>
    have hb3 : Below w.heap.size w w1.drew := bw_drew hb0
    refine wp_region_RW 6 (by kernel_rfl) (by kernel_rfl) ?_
    refine RW.chunk (f := 4) [0, 2] (by kernel_rfl) ?_
    ((simp only [pickOps, List.filterMap, List.getElem?_toArray, List.getElem?_cons_zero, List.getElem?_cons_succ]); (repeat (go_big_quiet_step (fail))); refine wpQuiet_nil ?_)
    refine RW.single 1 rfl (by kernel_rfl) (by omega) ?_
    intro K hK
    go_wp2_with fail
    refine (HA.out _ hb3).mono ?_
    rintro e w3 ⟨hr3, hbx3⟩
    obtain ⟨A6, c6, rfl, hs6⟩ := hr3.sl
    have hbw3 := below_step hb3 hbx3
    go_wp2_with fail
    refine hK _ _ hbx3 ?_
    clear hK hr3
    refine RW.single 3 rfl (by kernel_rfl) (by omega) ?_
    intro K hK
    go_wp2_with fail
    refine (HB.out _ hbw3).mono ?_
    rintro e w4 ⟨hr4, hbx4⟩
    obtain ⟨A7, c7, rfl, hs7⟩ := hr4.sl
    go_wp2_with fail
    refine hK _ _ hbx4 ?_
    clear hK hr4
    refine RW.chunk (f := 0) [4, 5] (by kernel_rfl) ?_
    ((simp only [pickOps, List.filterMap, List.getElem?_toArray, List.getElem?_cons_zero, List.getElem?_cons_succ]); (repeat (go_big_quiet_step (fail))); refine wpQuiet_nil ?_)
    (refine RW.done (by kernel_rfl) (by kernel_rfl) ?_)
    go_wp2_with fail
    go_meet
    exact ⟨A6, c6, A7, c7, rfl, rfl, hs6.mono hbx4, hs7, below_step hbw3 hbx4⟩
  case rest =>
  obtain ⟨A6, c6, A7, c7, rfl, rfl, hs6, hs7, hbw⟩ := hcut
  clear p0 p1 p2 pl q0 q1 q2 ql bx1 by1 hb0 HA HB
  go_wp2_with fail
  refine (minus_any K0 K1 A6 A7 c6 c7 _ hL0 hL1 hK1 hs6 hs7).mono ?_
  rintro e w5 ⟨hr5, hb5⟩
  obtain ⟨A8, c8, rfl, hs8⟩ := hr5.sl
  have hs6 := hs6.mono hb5
  have hs7 := hs7.mono hb5
  have hbw5 := below_step hbw hb5
  clear hr5
  go_wp2_with fail
  refine (minus_any K1 K0 A7 A6 c7 c6 _ hL1 hL0 hK0 hs7 hs6).mono ?_
  rintro e w6 ⟨hr6, hb6⟩
  obtain ⟨A9, c9, rfl, hs9⟩ := hr6.sl
  clear hr6
  have hs8 := hs8.mono hb6
  go_wp2_with fail
  go_ret2
  exact ⟨⟨A8, c8, A9, c9, rfl, hs8, hs9⟩, below_step hbw5 hb6⟩
set_option maxHeartbeats 8000000 in
set_option maxRecDepth 100000 in
theorem refCompare_any (a b : List Fnd) (A0 A1 A2 B0 B1 B2 : Option Addr) (c0 n1 c1 n2 c2 d0 m1 d1 m2 d2 : Nat) (w : World) (hka : Hid (∀ x ∈ a, OkKey x)) (hkb : Hid (∀ x ∈ b, OkKey x)) (hla : a.length ≤ 1600000000000) (hlb : b.length ≤ 1600000000000) (hsa : Sl Lay.fnd w A0 a) (hsb : Sl Lay.fnd w B0 b) :
    Calls Tryz.prog 19 #[.agg #[.slice A0 a.length c0, .slice A1 n1 c1, .slice A2 n2 c2], .agg #[.slice B0 b.length d0, .slice B1 m1 d1, .slice B2 m2 d2]] w fun e w' => RetCm (keysS a) (keysS b) w' e ∧ Below w.heap.size w w' := by
  have HA := Lib.hid (fun W h => refKeys_any a A0 c0 W hka hla (hsa.mono h))
  have HB := Lib.hid (fun W h => refKeys_any b B0 d0 W hkb hlb (hsb.mono h))
  have bx1 : Box ((w.alloc (.cells #[.slice A0 a.length c0, .slice A1 n1 c1, .slice A2 n2 c2] 26)).alloc (.cells #[.slice B0 b.length d0, .slice B1 m1 d1, .slice B2 m2 d2] 26)) w.heap.size [.slice A0 a.length c0, .slice A1 n1 c1, .slice A2 n2 c2] 26 := (by repeat (first | (refine Box.at ?_; (simp; done)) | apply Box.drew | apply Box.alloc | assumption))
  have by1 : Box ((w.alloc (.cells #[.slice A0 a.length c0, .slice A1 n1 c1, .slice A2 n2 c2] 26)).alloc (.cells #[.slice B0 b.length d0, .slice B1 m1 d1, .slice B2 m2 d2] 26)) (w.heap.size + 1) [.slice B0 b.length d0, .slice B1 m1 d1, .slice B2 m2 d2] 26 := (by repeat (first | (refine Box.at ?_; (simp; done)) | apply Box.drew | apply Box.alloc | assumption))
  have hb0 : Below w.heap.size w ((w.alloc (.cells #[.slice A0 a.length c0, .slice A1 n1 c1, .slice A2 n2 c2] 26)).alloc (.cells #[.slice B0 b.length d0, .slice B1 m1 d1, .slice B2 m2 d2] 26)) := (by repeat (first | assumption | exact Below.refl _ _ | apply bw_alloc | apply bw_drew | apply bw_drewN | apply bw_later | apply bw_step))
  have hK0 := Lib.hid (keysS_asc a)
  have hK1 := Lib.hid (keysS_asc b)
  have hL0 := keysS_le hla
  have hL1 := keysS_le hlb
  generalize keysS a = K0 at *
  generalize keysS b = K1 at *
  clear hsa hsb hka hkb
  go_enter Tryz.func19, Tryz.ntmps19
  go_upto_region 1 with fail
  generalize World.alloc (World.alloc w _) _ = w1 at *
  have p0 := bx1.cell 0 rfl
  have pl := bx1.lt
  have q0 := by1.cell 0 rfl
  have ql := by1.lt
  go_cut [6, 7] (fun v6 v7 wx => ∃ A6 c6 A7 c7, v6 = .slice A6 K0.length c6 ∧ v7 = .slice A7 K1.length c7 ∧ Sl Lay.str wx A6 K0 ∧ Sl Lay.str wx A7 K1 ∧ Below w.heap.size w wx)
  case first =>
    have hb3 : Below w.heap.size w w1.drew := bw_drew hb0
    refine wp_region_RW 8 (by kernel_rfl) (by kernel_rfl) ?_
    refine RW.chunk (f := 4) [0, 1, 3, 4] (by kernel_rfl) ?_
    ((simp only [pickOps, List.filterMap, List.getElem?_toArray, List.getElem?_cons_zero, List.getElem?_cons_succ]); (repeat (go_big_quiet_step (fail))); refine wpQuiet_nil ?_)
    refine RW.single 2 rfl (by kernel_rfl) (by omega) ?_
    intro K hK
    go_wp2_with fail
    refine (HA.out _ hb3).mono ?_
    rintro e w3 ⟨hr3, hbx3⟩
    obtain ⟨A6, c6, rfl, hs6⟩ := hr3.sl
    have hbw3 := below_step hb3 hbx3
    go_wp2_with fail
    refine hK _ _ hbx3 ?_
    clear hK hr3
    refine RW.single 5 rfl (by kernel_rfl) (by omega) ?_
    intro K hK
    go_wp2_with fail
    refine (HB.out _ hbw3).mono ?_
    rintro e w4 ⟨hr4, hbx4⟩
    obtain ⟨A7, c7, rfl, hs7⟩ := hr4.sl
    go_wp2_with fail
    refine hK _ _ hbx4 ?_
    clear hK hr4
    refine RW.chunk (f := 0) [6, 7] (by kernel_rfl) ?_
    ((simp only [pickOps, List.filterMap, List.getElem?_toArray, List.getElem?_cons_zero, List.getElem?_cons_succ]); (repeat (go_big_quiet_step (fail))); refine wpQuiet_nil ?_)
    (refine RW.done (by kernel_rfl) (by kernel_rfl) ?_)
    go_wp2_with fail
    go_meet
    exact ⟨A6, c6, A7, c7, rfl, rfl, hs6.mono hbx4, hs7, below_step hbw3 hbx4⟩
  case rest =>
  obtain ⟨A6, c6, A7, c7, rfl, rfl, hs6, hs7, hbw⟩ := hcut
  clear p0 pl q0 ql bx1 by1 hb0 HA HB
  go_wp2_with fail
  refine (refMinus_any K0 K1 A6 A7 c6 c7 _ hL0 hL1 hK0 hK1 hs6 hs7).mono ?_
  rintro e w5 ⟨hr5, hb5⟩
  obtain ⟨A8, c8, rfl, hs8⟩ := hr5.sl
  have hs6 := hs6.mono hb5
  have hs7 := hs7.mono hb5
  have hbw5 := below_step hbw hb5
  clear hr5
  go_wp2_with fail
  refine (refMinus_any K1 K0 A7 A6 c7 c6 _ hL1 hL0 hK1 hK0 hs7 hs6).mono ?_
  rintro e w6 ⟨hr6, hb6⟩
  obtain ⟨A9, c9, rfl, hs9⟩ := hr6.sl
  clear hr6
  have hs8 := hs8.mono hb6
  go_wp2_with fail
  go_ret2
  exact ⟨⟨A8, c8, A9, c9, rfl, hs8, hs9⟩, below_step hbw5 hb6⟩
end Go.Proofs.YtlcdnkloijehjaaGreatDoor
