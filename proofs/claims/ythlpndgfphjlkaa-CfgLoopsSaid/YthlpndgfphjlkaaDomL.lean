/-
  dom.Loops: the heads of the natural loops.
-/
import Derived.Test.YthlpndgfphjlkaaDomH
namespace Go.Proofs.Ythlpndgfphjlkaa
open Go.RowKit
open Classical in
/-- h dominates p, and both are reached. -/
noncomputable def dmB (E : List (Int × Int)) (s h p : Nat) : Bool := decide (RA E s none h ∧ RA E s none p ∧ ¬ RA E s (some h) p)
theorem dmB_iff (E : List (Int × Int)) (s h p : Nat) : dmB E s h p = true ↔ RA E s none h ∧ RA E s none p ∧ ¬ RA E s (some h) p := by unfold dmB; simp
/-- h is a head. -/
def IsHead (E : List (Int × Int)) (s h : Nat) : Prop := ∃ p : Nat, ((p : Int), (h : Int)) ∈ E ∧ dmB E s h p = true
open Classical in
noncomputable def headsTo (E : List (Int × Int)) (s m : Nat) : List Nat := (List.range m).filter fun h => decide (IsHead E s h)
theorem headsTo_yes {E : List (Int × Int)} {s m : Nat} (h : IsHead E s m) : headsTo E s (m + 1) = headsTo E s m ++ [m] := by
  unfold headsTo; rw [List.range_succ, List.filter_append]; simp [h]
theorem headsTo_no {E : List (Int × Int)} {s m : Nat} (h : ¬ IsHead E s m) : headsTo E s (m + 1) = headsTo E s m := by
  unfold headsTo; rw [List.range_succ, List.filter_append]; simp [h]
theorem headsTo_len (E : List (Int × Int)) (s m : Nat) : (headsTo E s m).length ≤ m := by
  unfold headsTo; exact Nat.le_trans (List.length_filter_le _ _) (by simp)
theorem mem_headsTo {E : List (Int × Int)} {s m h : Nat} : h ∈ headsTo E s m ↔ h < m ∧ IsHead E s h := by
  unfold headsTo; simp
abbrev Lp := Int × Option Addr × Nat × Nat
def cellsLp (x : Lp) : List Value := [.int .i64 x.1, .slice x.2.1 x.2.2.1 x.2.2.2]
theorem cellsLp_ok : CellsOk cellsLp 2 := ⟨fun _ => rfl, fun _ u hu => by simp [cellsLp] at hu; rcases hu with rfl | rfl <;> rfl⟩
theorem loopTy : ElemTy Try.prog 54 58 2 32 (.agg #[.int .i64 0, .slice none 0 0]) := ⟨Try.underlying54, by kernel_rfl, rfl, by omega⟩
def RetLoops (E : List (Int × Int)) (n s : Nat) (w w' : World) (e : Ending) : Prop := ∃ v l, e = .returned (.tuple #[v, .int .i64 0]) ∧ Own cellsLp 2 w.heap.size 58 w' v l ∧ l.map (·.1) = (headsTo E s n).map fun (x : Nat) => (x : Int)
set_option maxRecDepth 100000 in
set_option maxHeartbeats 4000000 in
theorem loops_any (n s : Nat) (A : Option Addr) (c : Nat) (E : List (Int × Int)) (w : World) (hG : Hid (GrOk n E)) (hsn : s < n) (hs : Sl Lay.int2 w A E) :
    Calls Try.prog 22 #[.agg #[.int .i64 (n : Nat), .slice A E.length c], .int .i64 (s : Nat)] w fun e w' => RetLoops E n s w w' e ∧ Below w.heap.size w w' := by
  have hnn := hG.out.nn
  have HEL := Lib.hid hG.out.len
  have hb0 : Below w.heap.size w (w.alloc (.cells #[.int .i64 (n : Nat), .slice A E.length c] 28)) := (by repeat (first | assumption | exact Below.refl _ _ | apply bw_alloc | apply bw_drew | apply bw_drewN | apply bw_later | apply bw_step))
  have bg0 : Box (w.alloc (.cells #[.int .i64 (n : Nat), .slice A E.length c] 28)) w.heap.size [.int .i64 (n : Nat), .slice A E.length c] 28 := Box.new _ _ _
  go_enter Try.func22, Try.ntmps22
  go_wp2_with fail
  refine (domCheck_any n s A c E _ hG hsn (hs.mono hb0)).mono ?_
  rintro e w1 ⟨rfl, hb1⟩
  have bg1 := bg0.mono hb1
  have hbw1 := below_step hb0 hb1
  have p0 := bg1.cell 0 rfl
  have p1 := bg1.cell 1 rfl
  have pl := bg1.lt
  clear bg0 hb0 hb1
  go_wp2_with fail
  refine (build_any n s A c E _ hG hsn (hs.mono hbw1)).mono ?_
  rintro e w2 ⟨⟨AU, cU, AO, cO, AP, cP, post, ordL, upL, r, U, rfl, hok, hU, hO, hP⟩, hb2⟩
  have hT2 : TreV E n s post ordL upL r U AU AO AP w2 := ⟨hok, hU, hO, hP, hG.out.rng, hnn, hG.out.len⟩
  have bg2 := bg1.mono hb2
  have hbw2 := below_step hbw1 hb2
  clear p0 p1 pl bg1 hbw1 hb2 hok hU hO hP
  go_upto_region 5 with fail
  generalize hW : World.alloc _ _ = W3
  have bt3 : Box W3 w2.heap.size [.slice AU n cU, .slice AO n cO, .slice AP n cP] 80 := by rw [← hW]; exact Box.new _ _ _
  have hb3 : Below w2.heap.size w2 W3 := by rw [← hW]; exact bw_alloc (Below.refl _ _)
  have hT3 := Lib.hid (hT2.mono hb3)
  have bg3 := bg2.mono hb3
  have hbw3 := below_step hbw2 hb3
  generalize hg7 : w2.heap.size = g7 at *
  clear hW hT2 bg2 hb3
  have p0 := bg3.cell 0 rfl
  have pl := bg3.lt
  go_wp2_with fail
  go_loopw [8, 24] (fun v8 v24 wr => ∃ (k : Nat) (l : List Lp), k ≤ n ∧ v24 = .int .i64 k ∧ l.length ≤ k ∧ Own cellsLp 2 W3.heap.size 58 wr v8 l ∧ Hid (l.map (·.1) = (headsTo E s k).map fun (x : Nat) => (x : Int)) ∧ Below W3.heap.size W3 wr) (fun _ v24 _ => n - (intOf v24).toNat)
  case atStart => exact ⟨0, [], Nat.zero_le _, rfl, Nat.zero_le _, Own.nil, rfl, Below.refl _ _⟩
  case round =>
    clear p0 pl
    obtain ⟨k, l, hk, rfl, hll, hown, HL, hbel⟩ := hrel
    by_cases hlt : k < n
    · have hTW := Lib.hid (hT3.out.mono hbel)
      have btr := bt3.mono hbel
      obtain ⟨bP, oP, A4, c4, rfl, hbP, d4, hs4⟩ := hTW.out.hP k (by rw [predsOf_len]; exact hlt)
      obtain ⟨P, HP⟩ : ∃ P, Hid (P = predL E k) := ⟨_, Lib.hid rfl⟩
      rw [predsOf_at, ← HP.out] at d4 hs4
      have HPN : Hid (∀ y : Nat, y ∈ P ↔ ((y : Int), (k : Int)) ∈ E) := fun y => by rw [HP.out]; exact mem_predL hG.out.rng
      have HPR : Hid (∀ y ∈ P, y < n) := fun y hy => by
        have := (hG.out.rng _ ((HPN.out y).1 hy)).2.1
        dsimp only at this
        omega
      have hPl : P.length ≤ 40000 := by rw [HP.out]; have := predL_len E k; have := HEL.out; omega
      have t2 := btr.cell 2 rfl
      have tl := btr.lt
      have hkI : (k : Int) < (n : Int) := by omega
      have hkb : k < 10000 := by omega
      have HLT := Lib.hid hlt
      clear HP
      go_wp2_with fail
      obtain ⟨wo, rfl⟩ : ∃ wo : World, wo = wr := ⟨_, rfl⟩
      go_loopw [10, 33] (fun v10 v33 wr2 => ∃ (j : Nat) (st : List Nat), j ≤ P.length ∧ v33 = .int .i64 j ∧ Own cellsInt 1 wo.heap.size 3 wr2 v10 (st.map fun (x : Nat) => (x : Int)) ∧ Hid (st = (P.take j).filter (dmB E s k)) ∧ Below wo.heap.size wo wr2) (fun _ v33 _ => P.length - (intOf v33).toNat)
      case atStart => exact ⟨0, [], Nat.zero_le _, rfl, Own.nil, by show _ = _; simp, Below.refl _ _⟩
      case round =>
        clear t2 tl d4 hbP
        obtain ⟨j, st, hj, rfl, hst, HS, hb2⟩ := hrel
        by_cases hjt : j < P.length
        · have HTJ := Lib.hid (hTW.out.mono hb2)
          have btj := btr.mono hb2
          obtain ⟨bS, oS, rfl, hbS, dS⟩ := (hs4.mono hb2).int_at (i := j) (by rw [List.length_map]; exact hjt)
          simp only [List.getElem_map] at dS
          obtain ⟨y, hy⟩ : ∃ y, y = P[j] := ⟨_, rfl⟩
          have hyn : y < n := by rw [hy]; exact HPR.out _ (List.getElem_mem hjt)
          rw [← hy] at dS
          have HSN : Hid ((P.take (j + 1)).filter (dmB E s k) = st ++ (if dmB E s k y = true then [y] else [])) := by
            show _ = _
            rw [List.take_succ_eq_append_getElem hjt, List.filter_append, ← HS.out, hy]
            congr 1
            split <;> simp_all
          have hsl : st.length ≤ 40000 := by
            rw [HS.out]
            have := List.length_filter_le (dmB E s k) (P.take j)
            rw [List.length_take] at this
            omega
          have hjI : (j : Int) < (P.length : Int) := by omega
          have HJT := Lib.hid hjt
          have hjb : j < 50000 := by omega
          have t0 := btj.cell 0 rfl
          have t1 := btj.cell 1 rfl
          have t2 := btj.cell 2 rfl
          have tl := btj.lt
          clear hy HS
          go_wp2_with fail
          refine (dominates_n AU AO _ cU cO cP k y _ HTJ.out HLT.out hyn).mono ?_
          rintro e w5 ⟨⟨x, rfl, HX⟩, hb5⟩
          have hst5 := hst.mono hb5
          have hb25 := below_step hb2 hb5
          clear t0 t1 t2 tl dS hbS hst hb2 hb5
          cases x with
          | true =>
            have HS2 : Hid (st ++ [y] = (P.take (j + 1)).filter (dmB E s k)) := by
              show _ = _
              rw [HSN.out, if_pos ((dmB_iff E s k y).2 (HX.out.1 rfl))]
            clear HX HSN
            go_upto_region 14 with fail
            have hb6 := bw_alloc (o := .cells #[.int .i64 (y : Nat)] 3) (Below.refl w5.heap.size w5)
            have hsz := hb25.size
            obtain ⟨v', w', hrun, hown', hbl', hg', hz'⟩ := run_push (P := Try.prog) intTy cellsInt_ok 38 (hst5.mono hb6) (y : Int) w5.heap.size 1 (cells_one_new _ _ _) (by rw [List.length_map]; unfold maxLen; omega) (by rw [List.length_map]; omega) (by simp; omega)
            have hbel' := (hb25.trans (hb6.mono hsz)).trans hbl'
            have hown2 : Own cellsInt 1 wo.heap.size 3 w' v' ((st ++ [y]).map fun (x : Nat) => (x : Int)) := by rw [List.map_append]; exact hown'
            clear hg' hst5 hb25 hbl' hown'
            go_wp2_with (at_builtin; refine wpList_appendRun rfl (.tmp 41) (.tmp 43) 38 rfl rfl rfl hrun ?_)
            go_roundw
            case rel => exact ⟨j + 1, _, HJT.out, by go_num, hown2, HS2, hbel'⟩
            case measure => have := HJT.out; simp only [intOf]; omega
          | false =>
            have HS2 : Hid (st = (P.take (j + 1)).filter (dmB E s k)) := by
              show _ = _
              rw [HSN.out, if_neg (fun h => by have := HX.out.2 ((dmB_iff E s k y).1 h); cases this), List.append_nil]
            clear HX HSN
            go_wp2_with fail
            go_roundw
            case rel => exact ⟨j + 1, _, HJT.out, by go_num, hst5, HS2, hb25⟩
            case measure => have := HJT.out; simp only [intOf]; omega
        · obtain rfl : j = P.length := by omega
          rw [List.take_length] at HS
          have hownj := hown.mono hb2
          have hbelj := hbel.trans (hb2.mono hbel.size)
          have hstl : st.length ≤ 40000 := by rw [HS.out]; have := List.length_filter_le (dmB E s k) P; omega
          have HMEM : Hid (∀ p, p ∈ st ↔ ((p : Int), (k : Int)) ∈ E ∧ dmB E s k p = true) := fun p => by rw [HS.out, List.mem_filter, HPN.out]
          obtain ⟨A5, c5, hv5, hc5, hs5⟩ := hst.sl (L := Lay.int) rfl (fun x => rfl)
          rw [List.length_map] at hv5 hc5
          subst hv5
          clear HS hjt hj
          by_cases hz : st = []
          · subst hz
            have HN : Hid ((headsTo E s (k + 1)).map (fun (x : Nat) => (x : Int)) = (headsTo E s k).map fun (x : Nat) => (x : Int)) := by
              show _ = _
              rw [headsTo_no]
              rintro ⟨p, h1, h2⟩
              have := (HMEM.out p).2 ⟨h1, h2⟩
              simp at this
            clear HMEM
            simp only [List.length_nil]
            go_wp2_with fail
            go_roundw
            case rel => exact ⟨k + 1, l, HLT.out, by go_num, by omega, hownj, by show _ = _; rw [HN.out]; exact HL.out, hbelj⟩
            case measure => have := HLT.out; simp only [intOf]; omega
          · have hst0 : 0 < st.length := List.length_pos_iff.2 hz
            have hstI : (0 : Int) < (st.length : Int) := by omega
            have HSS : Hid (∀ x ∈ st, x < n) := fun x hx => HPR.out x ((HPN.out x).2 ((HMEM.out x).1 hx).1)
            have HN : Hid ((headsTo E s (k + 1)).map (fun (x : Nat) => (x : Int)) = (headsTo E s k).map (fun (x : Nat) => (x : Int)) ++ [(k : Int)]) := by
              show _ = _
              rw [headsTo_yes, List.map_append]
              · rfl
              · obtain ⟨p, hp⟩ := List.exists_mem_of_ne_nil _ hz
                exact ⟨p, (HMEM.out p).1 hp⟩
            have HTJ := Lib.hid (hTW.out.mono hb2)
            have btj := btr.mono hb2
            have t0 := btj.cell 0 rfl
            have t1 := btj.cell 1 rfl
            have t2 := btj.cell 2 rfl
            have tl := btj.lt
            clear hz HMEM hst
            go_wp2_with fail
            refine (body_any AU AO _ cU cO cP k A5 c5 st _ HTJ.out HLT.out hs5 HSS hstl).mono ?_
            rintro e w6 ⟨⟨A6, m6, c6, rfl⟩, hb6⟩
            have hown6 := hownj.mono hb6
            have hbel6 := hbelj.trans (hb6.mono hbelj.size)
            have hsz := hbel6.size
            have hb7 := bw_alloc (o := .cells #[.int .i64 (k : Nat), .slice A6 m6 c6] 58) (Below.refl w6.heap.size w6)
            obtain ⟨v', w', hrun, hown', hbl', hg', hz'⟩ := run_push (P := Try.prog) loopTy cellsLp_ok 54 (hown6.mono hb7) ((k : Int), A6, m6, c6) w6.heap.size 1 (cells_two_new _ _ _ _) (by unfold maxLen; omega) (by omega) (by simp; omega)
            have hbel' := (hbel6.trans (hb7.mono hsz)).trans hbl'
            have HL2 : Hid ((l ++ [((k : Int), A6, m6, c6)]).map (·.1) = (headsTo E s (k + 1)).map fun (x : Nat) => (x : Int)) := by
              show _ = _
              rw [HN.out, List.map_append, HL.out]
              rfl
            clear t0 t1 t2 tl hg' hown6 hbel6 hbl' hownj hbelj HN HL
            go_wp2_with (at_builtin; refine wpList_appendRun rfl (.tmp 49) (.tmp 56) 54 rfl rfl rfl hrun ?_)
            go_roundw
            case rel => exact ⟨k + 1, _, HLT.out, by go_num, by rw [List.length_append]; simp; omega, hown', HL2, hbel'⟩
            case measure => have := HLT.out; simp only [intOf]; omega
    · obtain rfl : k = n := by omega
      have hret := hown.base_le' hbw3.size
      have hbelw := hbw3.trans (hbel.mono hbw3.size)
      go_wp2_with fail
      refine bodyPost_ret (results_tmp2 rfl _ _ _) rfl ?_
      exact ⟨⟨_, l, rfl, hret, HL.out⟩, hbelw⟩
end Go.Proofs.Ythlpndgfphjlkaa
