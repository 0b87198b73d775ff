/-
  Chapter 10: Subs and Targets.
-/
import Derived.Test.YtafincpkehlcfaaHierH
namespace Go.Proofs.Ytafincpkehlcfaa
open Go.RowKit
set_option linter.unusedVariables false

theorem addNew_range {n : Nat} {l r : List Int} (h : InRange n l) (hr : ∀ x ∈ r, 0 ≤ x ∧ x < (n : Int)) : InRange n (addNew l r) := by
  induction r generalizing l with
  | nil => exact h
  | cons x q ih =>
    unfold addNew
    rw [List.foldl_cons]
    have hq : ∀ y ∈ q, 0 ≤ y ∧ y < (n : Int) := fun y hy => hr y (by simp [hy])
    by_cases hx : x ∈ l
    · rw [if_pos hx]; exact ih h hq
    · rw [if_neg hx]; exact ih (h.snoc (hr x (by simp)) hx) hq
theorem bfs_range {n : Nat} {kids : Int → List Int} (hk : ∀ u, ∀ x ∈ kids u, 0 ≤ x ∧ x < (n : Int)) : ∀ (f k : Nat) (l : List Int), InRange n l → InRange n (bfs kids f k l)
  | 0, _, l, h => h
  | f + 1, k, l, h => by
    by_cases hlt : k < l.length
    · rw [bfs_step hlt]; exact bfs_range hk f (k + 1) _ (addNew_range h (hk _))
    · rw [bfs_stop hlt]; exact h
theorem kidsI_range (cs : List Cls) (u : Int) : ∀ x ∈ kidsI cs u, 0 ≤ x ∧ x < (cs.length : Int) := fun x hx => by
  obtain ⟨i, rfl, hi, _⟩ := kidsTo_mem.1 hx
  omega
theorem subsI_range (cs : List Cls) (s : ByteArray) : InRange cs.length (subsI cs s) := by
  unfold subsI
  split
  · exact ⟨by simp, by simp⟩
  · refine bfs_range (kidsI_range cs) _ _ _ ⟨fun x hx => ?_, by simp⟩
    simp at hx; subst hx
    have := fnd_bd cs s
    omega
def subsL (cs : List Cls) (s : ByteArray) : List ByteArray := sortS ((subsI cs s).map (nmAt cs))
theorem subsL_len (cs : List Cls) (s : ByteArray) : (subsL cs s).length ≤ cs.length := by unfold subsL; rw [sortS_len, List.length_map]; exact (subsI_range cs s).len
def tgtOf (cs : List Cls) (m : ByteArray) (i : Int) : List ByteArray := if 0 ≤ (lookI cs m i).1 then [nmAt cs (lookI cs m i).1] else []
def targetsL (cs : List Cls) (s m : ByteArray) : List ByteArray := ascS ((subsI cs s).flatMap (tgtOf cs m))
theorem tgts_len (cs : List Cls) (m : ByteArray) : ∀ l : List Int, (l.flatMap (tgtOf cs m)).length ≤ l.length
  | [] => by simp
  | x :: r => by
    rw [List.flatMap_cons, List.length_append, List.length_cons]
    have h1 := tgts_len cs m r
    have h2 : (tgtOf cs m x).length ≤ 1 := by unfold tgtOf; split <;> simp
    omega
theorem targetsL_len (cs : List Cls) (s m : ByteArray) : (targetsL cs s m).length ≤ cs.length := by
  unfold targetsL
  exact Nat.le_trans (ascS_len _) (Nat.le_trans (tgts_len _ _ _) (subsI_range cs s).len)

set_option maxRecDepth 100000 in
set_option maxHeartbeats 1000000 in
theorem subs_any (A : Option Addr) (c : Nat) (cs : List Cls) (s : ByteArray) (w : World) (hl : cs.length ≤ 8796093022208) (hcc : cs.length ≤ c) (hsl : Sl Lay.cls w A cs) (hok : Hid (NamesOk cs)) (hs : okStr s) :
    Calls Try.prog 14 #[.agg #[.slice A cs.length c], .string s] w fun e w' => (∃ v, e = .returned v ∧ Own cellsStr 1 w.heap.size 9 w' v (subsL cs s)) ∧ Below w.heap.size w w' := by
  go_enter Try.func14, Try.ntmps14
  go_wp2_with fail
  have hb0 : Below w.heap.size w (w.alloc (.cells #[.slice A cs.length c] 28)) := (by repeat (first | assumption | exact Below.refl _ _ | apply bw_alloc | apply bw_drew | apply bw_drewN | apply bw_later | apply bw_step))
  refine (tableOf_any A c cs _ (by omega) hcc (hsl.mono hb0) hok).mono ?_
  rintro e w1 ⟨⟨b, rfl, hT⟩, hb1⟩
  have hbw1 := below_step hb0 hb1
  go_wp2_with fail
  have hbx := Box.new w1 [.slice A cs.length c, .map (some b)] 58
  have hbw2 : Below w.heap.size w (w1.alloc (.cells #[.slice A cs.length c, .map (some b)] 58)) := bw_alloc hbw1
  refine (tSubs_any A c b cs s _ hl (hT.mono (by repeat (first | assumption | exact Below.refl _ _ | apply bw_alloc | apply bw_drew | apply bw_drewN | apply bw_later | apply bw_step))) hok hs).mono ?_
  rintro e w2 ⟨⟨v2, rfl, hown2⟩, hb2⟩
  have hbx2 := hbx.mono hb2
  have hbw3 := below_step hbw2 hb2
  have hLb := (subsI_range cs s).bd
  have hLl := (subsI_range cs s).len
  have HSP : Hid (subsL cs s = sortS ((subsI cs s).map (nmAt cs))) := rfl
  generalize subsI cs s = L at *
  have HLB := Lib.hid hLb
  have hxlt : w1.heap.size < w2.heap.size := hbx2.lt
  clear hLb hbx hb2 hb1 hb0 hbw2 hT
  obtain ⟨AL, cL, rfl, hcL, hsL⟩ := IntsV.of_own hown2
  clear hown2
  go_wp2_with fail
  go_loopw [6, 15] (fun v i wr => ∃ k : Nat, k ≤ L.length ∧ i = .int .i64 k ∧ Own cellsStr 1 w2.heap.size 9 wr v ((L.take k).map (nmAt cs)) ∧ Below w2.heap.size w2 wr) (fun _ i _ => L.length - (intOf i).toNat)
  case atStart => exact ⟨0, Nat.zero_le _, rfl, Own.nil, Below.refl _ _⟩
  case round =>
    obtain ⟨k, hk, rfl, hown, hbw⟩ := hrel
    by_cases hlt : k < L.length
    · obtain ⟨bL, oL, rfl, hbL, dL⟩ := (hsL.mono hbw).int_at hlt
      have hj := HLB.out L[k] (List.getElem_mem hlt)
      have HM : Hid ((L.take (k + 1)).map (nmAt cs) = (L.take k).map (nmAt cs) ++ [nmAt cs L[k]]) := by show _ = _; rw [List.take_succ_eq_append_getElem hlt, List.map_append]; rfl
      obtain ⟨j, hjj⟩ : ∃ j : Nat, L[k] = j := ⟨L[k].toNat, by omega⟩
      rw [hjj] at dL hj HM
      clear hjj
      have hjl : j < cs.length := by omega
      rw [nmAt_nat hjl] at HM
      have hbx3 := hbx2.mono hbw
      have e0 := hbx3.cell 0 rfl
      have hxl := hbx3.lt
      obtain ⟨b0, o, A2, c2, A3, c3, rfl, hb, d0, d1, d2, d3, hc2, hs2, hc3, hs3⟩ := (hsl.mono (below_step hbw3 hbw)).cls_at hjl
      have hml : ((L.take k).map (nmAt cs)).length ≤ k := by rw [List.length_map, List.length_take]; omega
      have hsz := hbw.size
      go_wp2_with (at_builtin; refine wpList_pushG strsTy cellsStr_ok rfl (.tmp 19) (.tmp 26) rfl w2.heap.size _ _ rfl (Own.alloc hown _) cs[j].name _ _ rfl (cells_one_new _ _ _) (by unfold maxLen; omega) (by omega) ?_ ?_; (simp; omega); intro v3 w3 hown3 hb3 hg3)
      go_roundw
      case rel => exact ⟨k + 1, by omega, by go_num, by rw [HM.out]; exact hown3, (bw_alloc hbw).trans hb3⟩
      case measure => simp [intOf]; omega
    · have HK := Lib.hid (show L.take k = L from List.take_of_length_le (by omega))
      rw [HK.out] at hown
      have hml : (L.map (nmAt cs)).length ≤ cs.length := by rw [List.length_map]; omega
      go_wp2_with fail
      refine (sortStrings_own _ (L.map (nmAt cs)) _ _ hown (by omega)).mono ?_
      rintro e w4 ⟨rfl, hown4, hg4⟩
      rw [← HSP.out] at hown4
      have hb4 := hbw.grown hg4 hbw.size (fun k hk => (World.ownsRow.lt hown k hk).1)
      go_wp2_with fail
      go_ret
      exact ⟨⟨_, rfl, hown4.weaken hbw3.size⟩, below_step hbw3 hb4⟩

set_option maxRecDepth 100000 in
set_option maxHeartbeats 1000000 in
theorem targets_any (A : Option Addr) (c : Nat) (cs : List Cls) (s m : ByteArray) (w : World) (hl : cs.length ≤ 8796093022208) (hcc : cs.length ≤ c) (hsl : Sl Lay.cls w A cs) (hok : Hid (NamesOk cs)) (hlk : Hid (LensOk cs)) (hs : okStr s) :
    Calls Try.prog 15 #[.agg #[.slice A cs.length c], .string s, .string m] w fun e w' => (∃ v, e = .returned v ∧ Own cellsStr 1 w.heap.size 9 w' v (targetsL cs s m)) ∧ Below w.heap.size w w' := by
  go_enter Try.func15, Try.ntmps15
  go_wp2_with fail
  have hb0 : Below w.heap.size w (w.alloc (.cells #[.slice A cs.length c] 28)) := (by repeat (first | assumption | exact Below.refl _ _ | apply bw_alloc | apply bw_drew | apply bw_drewN | apply bw_later | apply bw_step))
  refine (tableOf_any A c cs _ (by omega) hcc (hsl.mono hb0) hok).mono ?_
  rintro e w1 ⟨⟨b, rfl, hT⟩, hb1⟩
  have hbw1 := below_step hb0 hb1
  go_wp2_with fail
  have hbx := Box.new w1 [.slice A cs.length c, .map (some b)] 58
  have hb12 : Below w1.heap.size w1 (w1.alloc (.cells #[.slice A cs.length c, .map (some b)] 58)) := (by repeat (first | assumption | exact Below.refl _ _ | apply bw_alloc | apply bw_drew | apply bw_drewN | apply bw_later | apply bw_step))
  have hbw2 : Below w.heap.size w (w1.alloc (.cells #[.slice A cs.length c, .map (some b)] 58)) := bw_alloc hbw1
  refine (tSubs_any A c b cs s _ hl (hT.mono hb12) hok hs).mono ?_
  rintro e w2 ⟨⟨v2, rfl, hown2⟩, hb2⟩
  have hbx2 := hbx.mono hb2
  have hbw3 := below_step hbw2 hb2
  have hT2 := (hT.mono hb12).mono hb2
  have hLb := (subsI_range cs s).bd
  have hLl := (subsI_range cs s).len
  have HSP : Hid (targetsL cs s m = ascS ((subsI cs s).flatMap (tgtOf cs m))) := rfl
  generalize subsI cs s = L at *
  have HLB := Lib.hid hLb
  have hxlt : w1.heap.size < w2.heap.size := hbx2.lt
  clear hLb hbx hb2 hb1 hb0 hbw2 hT hb12
  obtain ⟨AL, cL, rfl, hcL, hsL⟩ := IntsV.of_own hown2
  clear hown2
  go_wp2_with fail
  go_loopw [8, 19] (fun v i wr => ∃ k : Nat, k ≤ L.length ∧ i = .int .i64 k ∧ Own cellsStr 1 w2.heap.size 9 wr v ((L.take k).flatMap (tgtOf cs m)) ∧ Below w2.heap.size w2 wr) (fun _ i _ => L.length - (intOf i).toNat)
  case atStart => exact ⟨0, Nat.zero_le _, rfl, Own.nil, Below.refl _ _⟩
  case round =>
    obtain ⟨k, hk, rfl, hown, hbw⟩ := hrel
    by_cases hlt : k < L.length
    · obtain ⟨bL, oL, rfl, hbL, dL⟩ := (hsL.mono hbw).int_at hlt
      have hj := HLB.out L[k] (List.getElem_mem hlt)
      have HM : Hid ((L.take (k + 1)).flatMap (tgtOf cs m) = (L.take k).flatMap (tgtOf cs m) ++ tgtOf cs m L[k]) := by show _ = _; rw [List.take_succ_eq_append_getElem hlt, List.flatMap_append]; simp
      have hml : ((L.take k).flatMap (tgtOf cs m)).length ≤ k := Nat.le_trans (tgts_len _ _ _) (by rw [List.length_take]; omega)
      have hcase := lookL_bd (cs := cs) (m := m) (chR_bd hj.2).1
      have hLK : lookL cs m (chR cs L[k]).1 = lookI cs m L[k] := rfl
      rw [hLK] at hcase
      clear hLK
      generalize hzz : L[k] = z at *
      have hbx3 := hbx2.mono hbw
      have e0 := hbx3.cell 0 rfl
      have e1 := hbx3.cell 1 rfl
      have hxl := hbx3.lt
      clear hzz
      go_wp2_with fail
      refine (tLookup_any A c b cs z m _ hl (by omega) hj.2 (hT2.mono hbw) hok hlk).mono ?_
      rintro e w3 ⟨rfl, hb3⟩
      have hbw4 := below_step hbw hb3
      have hown4 := hown.mono hb3
      rcases hcase with hno | ⟨j, q, hjl, hq, hyes, hmem, hidx⟩
      · have HT : Hid (tgtOf cs m z = []) := by show _ = _; unfold tgtOf; rw [hno]; rfl
        rw [hno]
        rw [HT.out, List.append_nil] at HM
        go_wp2_with fail
        go_roundw
        case rel => exact ⟨k + 1, by omega, by go_num, by rw [HM.out]; exact hown4, hbw4⟩
        case measure => simp [intOf]; omega
      · have HT : Hid (tgtOf cs m z = [cs[j].name]) := by show _ = _; unfold tgtOf; rw [hyes, if_pos (by simp), nmAt_nat hjl]
        rw [hyes]
        rw [HT.out] at HM
        clear e0 e1
        have hbx4 := hbx3.mono hb3
        have e0 := hbx4.cell 0 rfl
        have hxl4 := hbx4.lt
        obtain ⟨b0, o, A2, c2, A3, c3, rfl, hb, d0, d1, d2, d3, hc2, hs2, hc3, hs3⟩ := (hsl.mono (below_step hbw3 hbw4)).cls_at hjl
        have hsz := hbw4.size
        go_wp2_with (at_builtin; refine wpList_pushG strsTy cellsStr_ok rfl (.tmp 32) (.tmp 39) rfl w2.heap.size _ _ rfl (Own.alloc hown4 _) cs[j].name _ _ rfl (cells_one_new _ _ _) (by unfold maxLen; omega) (by omega) ?_ ?_; (simp; omega); intro v5 w5 hown5 hb5 hg5)
        go_roundw
        case rel => exact ⟨k + 1, by omega, by go_num, by rw [HM.out]; exact hown5, (bw_alloc hbw4).trans hb5⟩
        case measure => simp [intOf]; omega
    · have HK := Lib.hid (show L.take k = L from List.take_of_length_le (by omega))
      rw [HK.out] at hown
      have hml : (L.flatMap (tgtOf cs m)).length ≤ cs.length := Nat.le_trans (tgts_len _ _ _) (by omega)
      go_wp2_with fail
      refine (sortStrings_own _ (L.flatMap (tgtOf cs m)) _ _ hown (by omega)).mono ?_
      rintro e w4 ⟨rfl, hown4, hg4⟩
      have hb4 := hbw.grown hg4 hbw.size (fun k hk => (World.ownsRow.lt hown k hk).1)
      go_wp2_with fail
      refine (compactStrings_own _ (sortS (L.flatMap (tgtOf cs m))) _ _ hown4 (by rw [sortS_len]; omega)).mono ?_
      rintro e w5 ⟨⟨v5, rfl, hown5⟩, hg5⟩
      change Own cellsStr 1 w2.heap.size 9 w5 v5 (ascS (L.flatMap (tgtOf cs m))) at hown5
      rw [← HSP.out] at hown5
      have hb5 := hb4.grown hg5 hb4.size (fun k hk => (World.ownsRow.lt hown4 k hk).1)
      go_wp2_with fail
      go_ret
      exact ⟨⟨_, rfl, hown5.weaken hbw3.size⟩, below_step hbw3 hb5⟩
end Go.Proofs.Ytafincpkehlcfaa
