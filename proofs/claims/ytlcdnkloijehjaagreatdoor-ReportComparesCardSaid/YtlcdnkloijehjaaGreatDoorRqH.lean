/-
  Chapter 47: the program's reader: a finding, walked.
-/
import Derived.Test.YtlcdnkloijehjaaGreatDoorMr3
namespace Go.Proofs.YtlcdnkloijehjaaGreatDoor
open Go.RowKit
set_option linter.unusedVariables false

theorem FndR.mk {B : Nat} {T : Nat × Int × Fnd} {w' : World} {e : Ending} (r : RFnd) (h : e = .returned (.agg #[.int .i64 r.kind, .string r.plc.cls, .string r.plc.mth, .int .i64 r.plc.ins, .string r.what, .slice r.A r.n r.c])) (hT : T.2.1 = 0 → RowF B w' r T.2.2) : FndR B T w' e := ⟨r, h, hT⟩
theorem Own.form3 {α : Type} {cells : α → List Value} {size base : Nat} {e : TypeId} {w : World} {v : Value} {l : List α} (h : Own cells size base e w v l) : ∃ A n c, v = .slice A n c := by
  rcases h.2 with ⟨rfl, _⟩ | ⟨g, cap, cur, rfl, _⟩
  · exact ⟨_, _, _, rfl⟩
  · exact ⟨_, _, _, rfl⟩
set_option maxHeartbeats 16000000 in
set_option maxRecDepth 100000 in
theorem finding_any {w0 : World} {s : ByteArray} {rb I : Nat} (W : World) (hg : Glp w0) (hrb : w0.heap.size ≤ rb) (hbw : Below w0.heap.size w0 W) (hs : s.size ≤ 1500000) (hr : RdS s rb I 0 W) :
    Calls Tryz.prog 44 #[.pointer (some ⟨rb, 0, none⟩)] W fun e w' => FndR W.heap.size (findP (linesW s) I) w' e ∧ RdS s rb (findP (linesW s) I).1 (findP (linesW s) I).2.1 w' ∧ W.grownBy w' (some rb) := by
  have hrl := hr.bx.lt
  have HGL : Hid (∀ w', W.grownBy w' (some rb) → Glp w') := fun w' h => hg.mono (below_grownB hbw h hrb)
  obtain ⟨T, HT⟩ : ∃ T, Hid (T = findP (linesW s) I) := ⟨_, Lib.hid rfl⟩
  rw [← HT.out]
  generalize hW0 : (W.alloc (.cells #[.int .i64 0, .string ⟨#[]⟩, .string ⟨#[]⟩, .int .i64 0, .string ⟨#[]⟩, .slice none 0 0] 46)).alloc (.cells #[.int .i64 0, .string ⟨#[]⟩, .string ⟨#[]⟩, .int .i64 0, .string ⟨#[]⟩, .slice none 0 0] 46) = W1
  have bx3 : Box W1 (W.heap.size + 1) zeroF 46 := by rw [← hW0]; exact Box.at (by simp)
  have bx2 : Box W1 W.heap.size zeroF 46 := by rw [← hW0]; exact (Box.new _ _ _).alloc _
  have hz1 : W1.heap.size = W.heap.size + 2 := by rw [← hW0]; simp
  have hb1 : Below W.heap.size W W1 := by rw [← hW0]; exact (by repeat (first | assumption | exact Below.refl _ _ | apply bw_alloc | apply bw_drew | apply bw_drewN | apply bw_later | apply bw_step))
  have hr1 := hr.mono hb1
  have hgr1 : W.grownBy W1 (some rb) := grown_below hb1 _
  by_cases hw : (wordsP (linesW s) I wFnd 7).1 = 0
  case neg =>
    have HW := Lib.hid (words_no ⟨#[102, 105, 110, 100, 105, 110, 103]⟩ 7 W1 (HGL.out _ hgr1) hs hr1 hw)
    have HTE : Hid (T = (I, (wordsP (linesW s) I wFnd 7).1, fnd0)) := by show _ = _; rw [HT.out]; unfold findP; rw [if_neg hw]
    have e0 : toL (⟨#[102, 105, 110, 100, 105, 110, 103]⟩ : ByteArray) = wFnd := rfl
    rw [e0] at HW
    generalize (wordsP (linesW s) I wFnd 7).1 = c at *
    rw [HTE.out]
    have HC := Lib.hid hw
    clear hw e0 HT HTE
    go_enter Tryz.func44, Tryz.ntmps44
    go_upto_region 2 with fail
    clear hW0
    go_wp2_with fail
    refine HW.out.mono ?_
    rintro e w2 ⟨he, hr2, hg2⟩
    unfold RetNo at he
    subst he
    have bx3' := bx3.grown hg2 (fun e => by injection e with e; omega)
    have bx2' := bx2.grown hg2 (fun e => by injection e with e; omega)
    obtain ⟨bxF, hgF⟩ := Box.store6 bx2' (.int .i64 0) (.string ⟨#[]⟩) (.string ⟨#[]⟩) (.int .i64 0) (.string ⟨#[]⟩) (.slice none 0 0)
    have hrF : RdS s rb I c _ := ⟨hr2.bx.grown hgF (fun e => by injection e with e; omega), hr2.le⟩
    have hgF2 := grown_new (grown_trans hgr1 hg2) hgF (Nat.le_refl _)
    have c0 := bx3'.cell 0 rfl
    have c1 := bx3'.cell 1 rfl
    have c2 := bx3'.cell 2 rfl
    have c3 := bx3'.cell 3 rfl
    have c4 := bx3'.cell 4 rfl
    have c5 := bx3'.cell 5 rfl
    have cl := bx3'.lt
    have d0 := bx2'.cell 0 rfl
    have d1 := bx2'.cell 1 rfl
    have d2 := bx2'.cell 2 rfl
    have d3 := bx2'.cell 3 rfl
    have d4 := bx2'.cell 4 rfl
    have d5 := bx2'.cell 5 rfl
    have df := fun i => bx2'.free i
    clear hg2 hr2 hgF hr1 hgr1 hb1 bx3 bx2 hz1
    go_wp2_with fail
    generalize World.setCell _ _ _ = W3 at *
    have z0 := bxF.cell 0 rfl
    have z1 := bxF.cell 1 rfl
    have z2 := bxF.cell 2 rfl
    have z3 := bxF.cell 3 rfl
    have z4 := bxF.cell 4 rfl
    have z5 := bxF.cell 5 rfl
    refine bodyPost_ret (v := .agg #[.int .i64 0, .string ⟨#[]⟩, .string ⟨#[]⟩, .int .i64 0, .string ⟨#[]⟩, .slice none 0 0]) (by simp [results, Tryz.results44, go_sem, z0, z1, z2, z3, z4, z5]) rfl ⟨?_, hrF, hgF2⟩
    exact FndR.mk ⟨0, ⟨⟨#[]⟩, ⟨#[]⟩, 0⟩, ⟨#[]⟩, none, 0, 0⟩ rfl (fun h => absurd h HC.out)
  obtain ⟨l, hwl⟩ : ∃ l, wordsP (linesW s) I wFnd 7 = (0, l) := ⟨_, Prod.ext hw rfl⟩
  obtain ⟨hI, hl7, hsz, hsp⟩ := words_sizes hwl
  have HW := Lib.hid (words_yes ⟨#[102, 105, 110, 100, 105, 110, 103]⟩ 7 l W1 (HGL.out _ hgr1) hs hr1 hwl)
  obtain ⟨x0, x1, x2, x3, x4, x5, x6, rfl⟩ := list7 hl7
  have HTE : Hid (T = if kindN x1 = 0 then (I, 2, fnd0) else match numP x4, numP x6 with | some a, some n => fndOf (linesW s) I [x0, x1, x2, x3, x4, x5, x6] a n | _, _ => (I, 2, fnd0)) := by
    show _ = _
    rw [HT.out]
    unfold findP
    rw [if_pos hw, hwl]
    rfl
  have s1 := hsz x1 (by simp)
  have p1 := hsp x1 (by simp)
  have s2 := hsz x2 (by simp)
  have s3 := hsz x3 (by simp)
  have s4 := hsz x4 (by simp)
  have s5 := hsz x5 (by simp)
  have s6 := hsz x6 (by simp)
  have HIX := Lib.hid (idx_kinds p1)
  clear hw hwl hl7 hsz hsp HT p1
  go_enter Tryz.func44, Tryz.ntmps44
  go_upto_region 2 with fail
  clear hW0
  go_wp2_with fail
  refine HW.out.mono ?_
  rintro e w2 ⟨⟨g, rfl, hbx, hgz⟩, hb2⟩
  have hF : FW W s rb I 0 g [x0, x1, x2, x3, x4, x5, x6] W.heap.size (W.heap.size + 1) zeroF w2 := ⟨hr1.mono hb2, hbx, bx2.mono hb2, bx3.mono hb2, grown_later hgr1 hb2, hrl, Nat.le_refl _, by omega, by omega⟩
  clear HW hbx hb2 bx2 bx3 hr1 hgr1 hb1
  have d1 := hF.bg.cell 1 rfl
  have dl := hF.bg.lt
  have fl := hF.x3.lt
  go_wp2_with fail
  refine wp_region_RW 5 (by kernel_rfl) (by kernel_rfl) ?_
  refine RW.chunk (f := 2) [1, 2, 3] (by kernel_rfl) ?_
  ((simp only [pickOps, List.filterMap, List.getElem?_toArray, List.getElem?_cons_zero, List.getElem?_cons_succ]); (repeat (go_big_quiet_step (fail))); refine wpQuiet_nil ?_)
  refine RW.single 0 rfl (by kernel_rfl) (by omega) ?_
  intro K2 hK2
  go_wp2_with fail
  refine (kinds_any _).mono ?_
  rintro e w3 ⟨⟨gk, rfl, hbk, hgk⟩, hb3⟩
  go_wp2_with fail
  refine hK2 _ _ hb3 ?_
  clear hK2
  have HIC := Lib.hid (Tryz.slices_Index_string gk 0 5 5 kindsL x1 w3 (Nat.le_refl _) (by omega) (kinds_cells hbk))
  rw [show kindsL.take 5 = kindsL from rfl, HIX.out] at HIC
  obtain ⟨q, HQ⟩ : ∃ q : Int, Hid (q = if kindN x1 = 0 then -1 else kindN x1) := ⟨_, Lib.hid rfl⟩
  rw [← HQ.out] at HIC
  refine RW.single 4 rfl (by kernel_rfl) (by omega) ?_
  intro K2 hK2
  go_wp2_with fail
  refine HIC.out.mono ?_
  rintro e w4 ⟨rfl, rfl⟩
  go_wp2_with fail
  refine hK2 _ _ (Below.refl _ _) ?_
  clear hK2
  have hF3 := hF.mono (below_step (by exact (by repeat (first | assumption | exact Below.refl _ _ | apply bw_alloc | apply bw_drew | apply bw_drewN | apply bw_later | apply bw_step))) hb3)
  clear hbk hgk hb3 HIC HIX d1 dl fl hF
  have hF4 := hF3.set 0 (.int .i64 q)
  have f0 := hF3.x3.cell 0 rfl
  have ff := hF3.x3.free 0
  have fl := hF3.x3.lt
  (refine RW.tail (by kernel_rfl) ?_; (simp only [List.drop_succ_cons, List.drop_zero]))
  go_upto_region 6 with fail
  generalize World.setCell _ _ _ = w5 at *
  clear hF3 f0 ff fl
  by_cases hk : kindN x1 = 0
  · have HTQ : Hid (T = (I, 2, fnd0)) := by show _ = _; rw [HTE.out, if_pos hk]
    have HQ1 : Hid (q = -1) := by show _ = _; rw [HQ.out, if_pos hk]
    have hq : q < 0 := by rw [HQ1.out]; decide
    clear HTE HQ hk
    have f0 := hF4.x3.cell 0 rfl
    have r2 := hF4.rd.bx.cell 2 rfl
    have rf := hF4.rd.bx.free 2
    have rl := hF4.rd.bx.lt
    have fl := hF4.x3.lt
    have hF5 : FW W s rb I 2 g [x0, x1, x2, x3, x4, x5, x6] W.heap.size (W.heap.size + 1) (zeroF.set 0 (.int .i64 q)) (w5.setCell ⟨rb, 2, none⟩ (.int .i64 2)) := hF4.turn ⟨hF4.rd.bx.set 2 _, hF4.rd.le⟩ (grown_set _ _ _ _)
    go_upto_region 8 with fail
    generalize World.setCell _ _ _ = w6 at *
    clear hF4 f0 r2 rf rl fl
    have hF6 : FW W s rb I 2 g [x0, x1, x2, x3, x4, x5, x6] W.heap.size (W.heap.size + 1) (cellsRFnd ⟨q, ⟨⟨#[]⟩, ⟨#[]⟩, 0⟩, ⟨#[]⟩, none, 0, 0⟩) w6 := hF5
    obtain ⟨bxF, hrF, hgF, -⟩ := copy_out hF6
    have c0 := hF6.x3.cell 0 rfl
    have c1 := hF6.x3.cell 1 rfl
    have c2 := hF6.x3.cell 2 rfl
    have c3 := hF6.x3.cell 3 rfl
    have c4 := hF6.x3.cell 4 rfl
    have c5 := hF6.x3.cell 5 rfl
    have cl := hF6.x3.lt
    have d0 := hF6.x2.cell 0 rfl
    have d1 := hF6.x2.cell 1 rfl
    have d2 := hF6.x2.cell 2 rfl
    have d3 := hF6.x2.cell 3 rfl
    have d4 := hF6.x2.cell 4 rfl
    have d5 := hF6.x2.cell 5 rfl
    have df := fun i => hF6.x2.free i
    clear hF5 hF6
    go_wp2_with fail
    generalize World.setCell _ _ _ = W3 at *
    have z0 := bxF.cell 0 rfl
    have z1 := bxF.cell 1 rfl
    have z2 := bxF.cell 2 rfl
    have z3 := bxF.cell 3 rfl
    have z4 := bxF.cell 4 rfl
    have z5 := bxF.cell 5 rfl
    refine bodyPost_ret (v := .agg #[.int .i64 q, .string ⟨#[]⟩, .string ⟨#[]⟩, .int .i64 0, .string ⟨#[]⟩, .slice none 0 0]) (by simp [results, Tryz.results44, go_sem, z0, z1, z2, z3, z4, z5]) rfl ⟨by rw [HTQ.out]; exact FndR.mk ⟨q, ⟨⟨#[]⟩, ⟨#[]⟩, 0⟩, ⟨#[]⟩, none, 0, 0⟩ rfl (fun h => by cases h), by rw [HTQ.out]; exact hrF, hgF⟩
  · have HQ1 : Hid (q = kindN x1) := by show _ = _; rw [HQ.out, if_neg hk]
    have hq : ¬ q < 0 := by
      rw [HQ1.out]
      rcases kindN_cases x1 with ⟨h, _⟩ | ⟨h, _⟩ | ⟨h, _⟩ | ⟨h, _⟩ | ⟨h, _⟩ <;> omega
    rw [if_neg hk] at HTE
    clear HQ hk
    have f0 := hF4.x3.cell 0 rfl
    have fl := hF4.x3.lt
    go_wp2_with fail
    refine wp_region_RC (S := fun w' => Box w' g [.string x0, .string x1, .string x2, .string x3, .string x4, .string x5, .string x6] 9) 12 (by kernel_rfl) (hF4.mono (by exact (by repeat (first | assumption | exact Below.refl _ _ | apply bw_alloc | apply bw_drew | apply bw_drewN | apply bw_later | apply bw_step)))).bg (by kernel_rfl) ?_
    have hF5 := hF4.mono (show Below w5.heap.size w5 w5.drew by exact (by repeat (first | assumption | exact Below.refl _ _ | apply bw_alloc | apply bw_drew | apply bw_drewN | apply bw_later | apply bw_step)))
    generalize World.drew w5 = wd at *
    have hsome : Nonempty (Held (fun w' : World => Box w' g [.string x0, .string x1, .string x2, .string x3, .string x4, .string x5, .string x6] 9)) := ⟨⟨wd, hF5.bg⟩⟩
    have hh : ∀ x : Held (fun w' : World => Box w' g [.string x0, .string x1, .string x2, .string x3, .string x4, .string x5, .string x6] 9), Box x.W g [.string x0, .string x1, .string x2, .string x3, .string x4, .string x5, .string x6] 9 := fun x => x.h
    have q2 := fun x => (hh x).cell 2 rfl
    have q3 := fun x => (hh x).cell 3 rfl
    have q4 := fun x => (hh x).cell 4 rfl
    have ql := fun x => (hh x).lt
    clear hh
    refine RC.chunk (f := 2) [0, 1, 2, 3, 4, 5, 6, 7, 8, 9] (by kernel_rfl) ?_
    ((simp only [pickOps, List.filterMap, List.getElem?_toArray, List.getElem?_cons_zero, List.getElem?_cons_succ]); (repeat (go_big_quiet_step (fail))); refine wpQuiet_nil ?_)
    clear q2 q3 q4 ql f0 fl hF4
    refine RC.single 10 rfl (by kernel_rfl) (by omega) ?_
    intro K2 hK2
    go_wp2_with fail
    refine (number_any x4 _ (HGL.out _ hF5.gr) hF5.rd (by omega)).mono ?_
    rintro e w6 ⟨ka, Ea, rfl, hra, hga, hna⟩
    have hF6 := hF5.turn hra hga
    have HNA := Lib.hid hna
    go_wp2_with fail
    refine hK2 _ _ hF6.bg ?_
    clear hK2 hF5 hra hga hna
    refine RC.single 11 rfl (by kernel_rfl) (by omega) ?_
    intro K2 hK2
    go_wp2_with fail
    refine hK2 _ _ hF6.bg ?_
    clear hK2
    refine RC.tail (by kernel_rfl) ?_
    simp only [List.drop_succ_cons, List.drop_zero]
    have f1 := hF6.x3.cell 1 rfl
    have f2 := hF6.x3.cell 2 rfl
    have f3 := hF6.x3.cell 3 rfl
    have ff := fun i => hF6.x3.free i
    have fl := hF6.x3.lt
    have hF7 := ((hF6.set 1 (.string x2)).set 2 (.string x3)).set 3 (.int .i64 ka)
    clear hsome
    go_upto_region 10 with fail
    generalize World.setCell _ _ _ = w7 at *
    clear hF6 f1 f2 f3 ff fl
    have d5 := hF7.bg.cell 5 rfl
    have dl := hF7.bg.lt
    have f4 := hF7.x3.cell 4 rfl
    have ff := hF7.x3.free 4
    have fl := hF7.x3.lt
    have hF8 := hF7.set 4 (.string x5)
    go_upto_region 11 with fail
    generalize World.setCell _ _ _ = w8 at *
    clear hF7 d5 dl f4 ff fl
    have d6 := hF8.bg.cell 6 rfl
    have dl := hF8.bg.lt
    go_wp2_with fail
    refine (number_any x6 _ (HGL.out _ hF8.gr) hF8.rd (by omega)).mono ?_
    rintro e w9 ⟨kb, Eb, rfl, hrbb, hgb, hnb⟩
    have hF9 := hF8.turn hrbb hgb
    have HNB := Lib.hid hnb
    clear hF8 d6 dl hrbb hgb hnb
    have hF9' : FW W s rb I Eb g [x0, x1, x2, x3, x4, x5, x6] W.heap.size (W.heap.size + 1) [.int .i64 q, .string x2, .string x3, .int .i64 ka, .string x5, .slice none 0 0] w9 := hF9
    clear hF9
    go_wp2_with fail
    by_cases hE : Eb = 0
    · subst hE
      obtain ⟨ha4, hb6, hkb0⟩ : numP x4 = some ka ∧ numP x6 = some kb ∧ 0 ≤ kb := by
        rcases HNB.out with ⟨h4, e2⟩ | ⟨_, _, e2⟩
        · rcases HNA.out with ⟨h3, e1⟩ | ⟨_, _, e1⟩
          · exact ⟨h3, h4, (numP_iff.1 h4).1⟩
          · omega
        · omega
      obtain ⟨n0, rfl⟩ : ∃ n0 : Nat, kb = n0 := ⟨kb.toNat, by omega⟩
      have hn01 : n0 ≤ 1000000 := by have := (numP_iff.1 hb6).2.1; omega
      obtain ⟨V, HV⟩ : ∃ V, Hid (V = viasP (linesW s) n0 (I + 1) []) := ⟨_, Lib.hid rfl⟩
      have HTV : Hid (T = (V.1, V.2.1, ⟨kindN x1, ⟨x2, x3, ka⟩, x5, V.2.2⟩)) := by
        show _ = _
        rw [HTE.out, ha4, hb6, HV.out]
        rfl
      clear HNA HNB HTE ha4 hb6 hkb0
      refine (next_yes _ (HGL.out _ hF9'.gr) (by omega) hF9'.rd hI).mono ?_
      rintro e w10 ⟨rfl, hr10, hg10⟩
      have hF10 := hF9'.turn hr10 hg10
      clear hF9' hr10 hg10
      go_wp2_with fail
      go_loopw [6] (fun v6 wr => ∃ (m J : Nat) (E : Int) (acc : List Plc) (v : Value) (g' : Nat) (ws' : List ByteArray), v6 = .int .i64 m ∧ FW W s rb J E g' ws' W.heap.size (W.heap.size + 1) [.int .i64 q, .string x2, .string x3, .int .i64 ka, .string x5, v] wr ∧ Own cellsPlc 3 W.heap.size 43 wr v acc ∧ Hid ((E = 0 ∧ viasP (linesW s) m J acc = V) ∨ (E ≠ 0 ∧ V.1 = J ∧ V.2.1 = E)) ∧ acc.length + m ≤ 1000000) (fun v6 _ => (intOf v6).toNat)
      case atStart => exact ⟨n0, I + 1, 0, [], .slice none 0 0, g, _, rfl, hF10, Own.nil, Lib.hid (Or.inl ⟨rfl, HV.out.symm⟩), by simpa using hn01⟩
      case round =>
        clear hF10 HV
        obtain ⟨m, J, E, acc, v, g', ws', rfl, hF, ho, HV2, hacc⟩ := hrel
        have hJ := hF.rd.le
        have hLL := linesW_le s
        by_cases ht : 0 < m ∧ E = 0
        · obtain ⟨hm, rfl⟩ := ht
          obtain ⟨m', rfl⟩ : ∃ m', m = m' + 1 := ⟨m - 1, by omega⟩
          have HV3 : Hid (viasP (linesW s) (m' + 1) J acc = V) := by
            rcases HV2.out with ⟨_, h⟩ | ⟨h, _⟩
            · exact h
            · exact absurd rfl h
          clear HV2
          have hm1 : 0 < ((m' + 1 : Nat) : Int) := by omega
          have hm2 : ((m' + 1 : Nat) : Int) - 1 = (m' : Int) := by omega
          have r2 := hF.rd.bx.cell 2 rfl
          have rl := hF.rd.bx.lt
          by_cases hw : (wordsP (linesW s) J wVia 4).1 = 0
          case neg =>
            have HW := Lib.hid (words_no ⟨#[118, 105, 97]⟩ 4 wr (HGL.out _ hF.gr) hs hF.rd hw)
            rw [show toL (⟨#[118, 105, 97]⟩ : ByteArray) = wVia from rfl] at HW
            have HVE : Hid (V = (J, (wordsP (linesW s) J wVia 4).1, acc)) := by
              show _ = _
              rw [← HV3.out]
              unfold viasP
              rw [if_neg hw]
            generalize (wordsP (linesW s) J wVia 4).1 = c at *
            have HC := Lib.hid hw
            clear hw HV3
            go_wp2_with fail
            refine HW.out.mono ?_
            rintro e w2 ⟨he, hr2, hg2⟩
            unfold RetNo at he
            subst he
            have hF2 := hF.turn hr2 hg2
            have ho2 := ho.kept_box hF.rd.bx (by decide) hg2
            clear r2 rl hF ho hr2 hg2
            go_wp2_with fail
            go_roundw
            case rel => exact ⟨m', J, c, acc, v, g', ws', by go_num, hF2, ho2, Lib.hid (Or.inr ⟨HC.out, by rw [HVE.out], by rw [HVE.out]⟩), by omega⟩
            case measure => simp [intOf]
          obtain ⟨l, hwl⟩ : ∃ l, wordsP (linesW s) J wVia 4 = (0, l) := ⟨_, Prod.ext hw rfl⟩
          obtain ⟨hJl, hl4, hsz, hsp⟩ := words_sizes hwl
          have HW := Lib.hid (words_yes ⟨#[118, 105, 97]⟩ 4 l wr (HGL.out _ hF.gr) hs hF.rd hwl)
          obtain ⟨y0, y1, y2, y3, rfl⟩ := list4 hl4
          have HVE : Hid (V = match numP y3 with | some a => viasP (linesW s) m' (J + 1) (acc ++ [⟨y1, y2, a⟩]) | none => (J, 2, acc)) := by
            show _ = _
            rw [← HV3.out]
            rw [viasP, if_pos hw, hwl]
            rfl
          have s1 := hsz y1 (by simp)
          have s2 := hsz y2 (by simp)
          have s3 := hsz y3 (by simp)
          clear hw hwl hl4 hsz hsp HV3
          go_wp2_with fail
          refine HW.out.mono ?_
          rintro e w2 ⟨⟨gw, rfl, hbx, hgz⟩, hb2⟩
          have hl5 : W.heap.size + 1 < gw := by have h1 := hF.l4; have h2 := hF.bg.lt; omega
          have hF2 := hF.words hb2 hbx hl5
          have ho2 := ho.mono hb2
          clear hF ho r2 rl HW hbx hb2 hgz hl5
          go_wp2_with fail
          refine wp_region_RC (S := fun w' => Box w' gw [.string y0, .string y1, .string y2, .string y3] 9 ∧ w'.cell? ⟨W.heap.size + 1, 5, none⟩ = some v) 16 (by kernel_rfl) ⟨(hF2.mono (by exact (by repeat (first | assumption | exact Below.refl _ _ | apply bw_alloc | apply bw_drew | apply bw_drewN | apply bw_later | apply bw_step)))).bg, (hF2.mono (show Below w2.heap.size w2 w2.drew by exact (by repeat (first | assumption | exact Below.refl _ _ | apply bw_alloc | apply bw_drew | apply bw_drewN | apply bw_later | apply bw_step)))).x3.cell 5 rfl⟩ (by kernel_rfl) ?_
          have hF3 := hF2.mono (show Below w2.heap.size w2 w2.drew by exact (by repeat (first | assumption | exact Below.refl _ _ | apply bw_alloc | apply bw_drew | apply bw_drewN | apply bw_later | apply bw_step)))
          have ho3 := ho2.mono (show Below w2.heap.size w2 w2.drew by exact (by repeat (first | assumption | exact Below.refl _ _ | apply bw_alloc | apply bw_drew | apply bw_drewN | apply bw_later | apply bw_step)))
          generalize World.drew w2 = wd at *
          have hsome : Nonempty (Held (fun w' : World => Box w' gw [.string y0, .string y1, .string y2, .string y3] 9 ∧ w'.cell? ⟨W.heap.size + 1, 5, none⟩ = some v)) := ⟨⟨wd, hF3.bg, hF3.x3.cell 5 rfl⟩⟩
          have hh : ∀ x : Held (fun w' : World => Box w' gw [.string y0, .string y1, .string y2, .string y3] 9 ∧ w'.cell? ⟨W.heap.size + 1, 5, none⟩ = some v), Box x.W gw [.string y0, .string y1, .string y2, .string y3] 9 ∧ x.W.cell? ⟨W.heap.size + 1, 5, none⟩ = some v := fun x => x.h
          have q1 := fun x => (hh x).1.cell 1 rfl
          have q2 := fun x => (hh x).1.cell 2 rfl
          have q3 := fun x => (hh x).1.cell 3 rfl
          have q5 := fun x => (hh x).2
          have ql := fun x => (hh x).1.lt
          clear hh hF2 ho2
          refine RC.chunk (f := 4) [0, 1, 2, 3, 4, 5, 6, 7, 8, 9, 10, 11] (by kernel_rfl) ?_
          ((simp only [pickOps, List.filterMap, List.getElem?_toArray, List.getElem?_cons_zero, List.getElem?_cons_succ]); (repeat (go_big_quiet_step (fail))); refine wpQuiet_nil ?_)
          clear q1 q2 q3 q5 ql
          refine RC.single 12 rfl (by kernel_rfl) (by omega) ?_
          intro K2 hK2
          go_wp2_with fail
          refine (number_any y3 _ (HGL.out _ hF3.gr) hF3.rd (by omega)).mono ?_
          rintro e w4 ⟨k, E', rfl, hr4, hg4, hn4⟩
          have hF4 := hF3.turn hr4 hg4
          have ho4 := ho3.kept_box hF3.rd.bx (by decide) hg4
          have HN4 := Lib.hid hn4
          go_wp2_with fail
          refine hK2 _ _ ⟨hF4.bg, hF4.x3.cell 5 rfl⟩ ?_
          clear hK2 hF3 ho3 hr4 hg4 hn4
          refine RC.single 13 rfl (by kernel_rfl) (by omega) ?_
          intro K2 hK2
          go_wp2_with fail
          refine hK2 _ _ ⟨hF4.bg, hF4.x3.cell 5 rfl⟩ ?_
          clear hK2
          have hb5 : Below w4.heap.size w4 (w4.alloc (.cells #[.string y1, .string y2, .int .i64 k] 43)) := by exact (by repeat (first | assumption | exact Below.refl _ _ | apply bw_alloc | apply bw_drew | apply bw_drewN | apply bw_later | apply bw_step))
          have hF5 := hF4.mono hb5
          have ho5 := ho4.mono hb5
          have bx5 := Box.new w4 [.string y1, .string y2, .int .i64 k] 43
          refine RC.single 14 rfl (by kernel_rfl) (by omega) ?_
          intro K2 hK2
          go_wp2_with fail
          refine hK2 _ _ ⟨hF5.bg, hF5.x3.cell 5 rfl⟩ ?_
          clear hK2 hb5 hF4 ho4
          have hsz5 : W.heap.size ≤ (w4.alloc (.cells #[.string y1, .string y2, .int .i64 k] 43)).heap.size := by have := hF5.gr.size; exact this
          generalize hW : w4.alloc _ = w5 at *
          clear hW
          refine RC.single 15 rfl (by kernel_rfl) (by omega) ?_
          intro K2 hK2
          refine wpList_pushG plcsTy cellsPlc_ok rfl (.tmp 72) (.tmp 85) rfl W.heap.size v acc rfl ho5 (⟨y1, y2, k⟩ : Plc) _ _ rfl (fun j u hu => bx5.cell j hu) (by unfold maxLen; omega) (by omega) hsz5 ?_
          intro v' w6 ho6 hb6 hg6
          obtain ⟨A6, n6, c6, rfl⟩ := ho6.form3
          have hF6 := hF5.row ho5 (Nat.le_refl _) (by decide) (by decide) (by decide) hg6
          go_wp2_with fail
          refine hK2 _ _ ⟨hF6.bg, hF6.x3.cell 5 rfl⟩ ?_
          clear hK2 hF5 ho5 bx5 hsz5 hb6 hg6 hsome
          refine RC.tail (by kernel_rfl) ?_
          simp only [List.drop_succ_cons, List.drop_zero]
          have f5 := hF6.x3.cell 5 rfl
          have ff := hF6.x3.free 5
          have fl := hF6.x3.lt
          have hF7 : FW W s rb J E' gw [y0, y1, y2, y3] W.heap.size (W.heap.size + 1) [.int .i64 q, .string x2, .string x3, .int .i64 ka, .string x5, .slice A6 n6 c6] _ := hF6.set 5 (.slice A6 n6 c6)
          have ho7 := ho6.kept_box hF6.x3 (by decide) (grown_set w6 (W.heap.size + 1) 5 (.slice A6 n6 c6))
          have hacc2 : (acc ++ [(⟨y1, y2, k⟩ : Plc)]).length = acc.length + 1 := by rw [List.length_append]; rfl
          have HACC := Lib.hid hacc2
          clear hacc2
          go_upto_region 18 with fail
          generalize World.setCell _ _ _ = w7 at *
          clear hF6 ho6 f5 ff fl
          go_wp2_with fail
          by_cases hE' : E' = 0
          · subst hE'
            have HVF : Hid (viasP (linesW s) m' (J + 1) (acc ++ [⟨y1, y2, k⟩]) = V) := by
              show _ = _
              rw [HVE.out]
              rcases HN4.out with ⟨h1, _⟩ | ⟨_, _, h1⟩
              · rw [h1]
              · omega
            refine (next_yes _ (HGL.out _ hF7.gr) (by omega) hF7.rd hJl).mono ?_
            rintro e w8 ⟨rfl, hr8, hg8⟩
            have hF8 := hF7.turn hr8 hg8
            have ho8 := ho7.kept_box hF7.rd.bx (by decide) hg8
            clear hF7 ho7 hr8 hg8
            go_wp2_with fail
            go_roundw
            case rel => exact ⟨m', J + 1, 0, _, .slice A6 n6 c6, gw, _, by go_num, hF8, ho8, Lib.hid (Or.inl ⟨rfl, HVF.out⟩), by rw [HACC.out]; omega⟩
            case measure => simp [intOf]
          · have HVF : Hid (E' ≠ 0 ∧ V.1 = J ∧ V.2.1 = E') := by
              refine ⟨hE', ?_⟩
              rcases HN4.out with ⟨_, h1⟩ | ⟨h1, _, h2⟩
              · exact absurd h1 hE'
              · rw [HVE.out, h1, h2]
                exact ⟨rfl, rfl⟩
            refine (next_err _ hF7.rd hE').mono ?_
            rintro e w8 ⟨rfl, rfl⟩
            clear hE' HN4
            go_wp2_with fail
            go_roundw
            case rel => exact ⟨m', J, E', _, .slice A6 n6 c6, gw, _, by go_num, hF7, ho7, Lib.hid (Or.inr HVF.out), by rw [HACC.out]; omega⟩
            case measure => simp [intOf]
        · clear hJ hLL
          obtain ⟨A, c, rfl, hcc, -⟩ := ho.sl (L := Lay.plc) rfl (fun _ => rfl)
          have hF5 : FW W s rb J E g' ws' W.heap.size (W.heap.size + 1) (cellsRFnd ⟨q, ⟨x2, x3, ka⟩, x5, A, acc.length, c⟩) wr := hF
          obtain ⟨bxF, hrF, hgF, hgB⟩ := copy_out hF5
          have hoF := ho.kept_box hF5.x2 (by decide) hgB
          have c0 := hF5.x3.cell 0 rfl
          have c1 := hF5.x3.cell 1 rfl
          have c2 := hF5.x3.cell 2 rfl
          have c3 := hF5.x3.cell 3 rfl
          have c4 := hF5.x3.cell 4 rfl
          have c5 := hF5.x3.cell 5 rfl
          have cl := hF5.x3.lt
          have d0 := hF5.x2.cell 0 rfl
          have d1 := hF5.x2.cell 1 rfl
          have d2 := hF5.x2.cell 2 rfl
          have d3 := hF5.x2.cell 3 rfl
          have d4 := hF5.x2.cell 4 rfl
          have d5 := hF5.x2.cell 5 rfl
          have df := fun i => hF5.x2.free i
          have r2 := hF5.rd.bx.cell 2 rfl
          have rl := hF5.rd.bx.lt
          have HTF : Hid (T.1 = J ∧ T.2.1 = E ∧ (E = 0 → T.2.2 = ⟨kindN x1, ⟨x2, x3, ka⟩, x5, acc⟩)) := by
            show _ ∧ _ ∧ _
            rw [HTV.out]
            rcases HV2.out with ⟨e1, e2⟩ | ⟨e1, e2, e3⟩
            · have hm0 : m = 0 := by
                rcases Nat.eq_zero_or_pos m with h | h
                · exact h
                · exact absurd ⟨h, e1⟩ ht
              subst hm0
              rw [← e2, e1]
              exact ⟨rfl, rfl, fun _ => rfl⟩
            · exact ⟨e2, e3, fun h => absurd h e1⟩
          have HPF : Hid (∀ W3, Own cellsPlc 3 W.heap.size 43 W3 (.slice A acc.length c) acc → T.2.1 = 0 → RowF W.heap.size W3 ⟨q, ⟨x2, x3, ka⟩, x5, A, acc.length, c⟩ T.2.2) := fun W3 ho h => by
            have h1 := HTF.out.2.2 (by rw [← HTF.out.2.1]; exact h)
            rw [h1]
            exact ⟨HQ1.out, rfl, rfl, ho⟩
          clear hF5 hF ho HV2 hcc
          by_cases hm : 0 < m
          all_goals (
            have hm1 : (0 < (m : Int)) = (0 < m) := by simp
            first
              | (have hE0 : (E == 0) = false := by rw [beq_eq_false_iff_ne]; exact fun h => ht ⟨hm, h⟩
                 go_wp2_with fail)
              | go_wp2_with fail
            generalize World.setCell _ _ _ = W3 at *
            have z0 := bxF.cell 0 rfl
            have z1 := bxF.cell 1 rfl
            have z2 := bxF.cell 2 rfl
            have z3 := bxF.cell 3 rfl
            have z4 := bxF.cell 4 rfl
            have z5 := bxF.cell 5 rfl
            refine bodyPost_ret (v := .agg #[.int .i64 q, .string x2, .string x3, .int .i64 ka, .string x5, .slice A acc.length c]) (by simp [results, Tryz.results44, go_sem, z0, z1, z2, z3, z4, z5]) rfl ⟨FndR.mk ⟨q, ⟨x2, x3, ka⟩, x5, A, acc.length, c⟩ rfl (HPF.out _ hoF), by rw [HTF.out.1, HTF.out.2.1]; exact hrF, hgF⟩)
    · have HTQ : Hid (T = (I, Eb, fnd0)) := by
        show _ = _
        have h1 := HNA.out
        have h2 := HNB.out
        rw [HTE.out]
        rcases h1 with ⟨h3, e1⟩ | ⟨h3, _, e1⟩
        · rcases h2 with ⟨h4, e2⟩ | ⟨h4, _, e2⟩
          · exact absurd (e2.trans e1) hE
          · rw [h3, h4, e2]
        · rcases h2 with ⟨h4, e2⟩ | ⟨h4, _, e2⟩
          · rw [h3, e2, e1]
          · rw [h3, h4, e2]
      have HC := Lib.hid hE
      have tE : (Eb == 0) = false := by rw [beq_eq_false_iff_ne]; exact hE
      refine (next_err _ hF9'.rd hE).mono ?_
      rintro e w10 ⟨rfl, rfl⟩
      have r2 := hF9'.rd.bx.cell 2 rfl
      have rl := hF9'.rd.bx.lt
      have hF10 : FW W s rb I Eb g [x0, x1, x2, x3, x4, x5, x6] W.heap.size (W.heap.size + 1) (cellsRFnd ⟨q, ⟨x2, x3, ka⟩, x5, none, 0, 0⟩) w9 := hF9'
      obtain ⟨bxF, hrF, hgF, -⟩ := copy_out hF10
      have c0 := hF10.x3.cell 0 rfl
      have c1 := hF10.x3.cell 1 rfl
      have c2 := hF10.x3.cell 2 rfl
      have c3 := hF10.x3.cell 3 rfl
      have c4 := hF10.x3.cell 4 rfl
      have c5 := hF10.x3.cell 5 rfl
      have cl := hF10.x3.lt
      have d0 := hF10.x2.cell 0 rfl
      have d1 := hF10.x2.cell 1 rfl
      have d2 := hF10.x2.cell 2 rfl
      have d3 := hF10.x2.cell 3 rfl
      have d4 := hF10.x2.cell 4 rfl
      have d5 := hF10.x2.cell 5 rfl
      have df := fun i => hF10.x2.free i
      clear hE hF9' hF10 HNA HNB HTE
      go_wp2_with fail
      refine wp_loop_rounds 1 ?_
      rw [rounds_succ]
      by_cases hkb : 0 < kb
      all_goals (
        go_wp2_with fail
        generalize World.setCell _ _ _ = W3 at *
        have z0 := bxF.cell 0 rfl
        have z1 := bxF.cell 1 rfl
        have z2 := bxF.cell 2 rfl
        have z3 := bxF.cell 3 rfl
        have z4 := bxF.cell 4 rfl
        have z5 := bxF.cell 5 rfl
        refine bodyPost_ret (v := .agg #[.int .i64 q, .string x2, .string x3, .int .i64 ka, .string x5, .slice none 0 0]) (by simp [results, Tryz.results44, go_sem, z0, z1, z2, z3, z4, z5]) rfl ⟨by rw [HTQ.out]; exact FndR.mk ⟨q, ⟨x2, x3, ka⟩, x5, none, 0, 0⟩ rfl (fun h => absurd h HC.out), by rw [HTQ.out]; exact hrF, hgF⟩)
end Go.Proofs.YtlcdnkloijehjaaGreatDoor
