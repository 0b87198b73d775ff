/-
  Chapter 10: the nearest declaration of a chain.
-/
import Derived.Test.YtafincpkehlcfaaDoorHierV
namespace Go.Proofs.YtafincpkehlcfaaDoor
open Go.RowKit
set_option linter.unusedVariables false

def nearS (cs : List Cls) (m : ByteArray) (L : List Int) : ByteArray := if 0 ≤ (lookL cs m L).1 then nmAt cs (lookL cs m L).1 else ByteArray.empty
theorem nearS_no {cs : List Cls} {m : ByteArray} {L : List Int} {k n : Nat} (hk : k < L.length) (hn : n < cs.length) (he : L[k] = n) (h : ∀ i (hi : i < cs[n].methods.length), isSg m cs[n].methods[i] = false) : nearS cs m (L.drop k) = nearS cs m (L.drop (k + 1)) := by
  unfold nearS
  rw [lookL_no hk (by rw [he, mIdx_nat hn, idxI_none h]; decide)]
theorem nearS_yes {cs : List Cls} {m : ByteArray} {L : List Int} {k n q : Nat} (hk : k < L.length) (hn : n < cs.length) (he : L[k] = n) (hq : q < cs[n].methods.length) (h : ∀ i (hi : i < q), isSg m (cs[n].methods[i]'(by omega)) = false) (hy : isSg m cs[n].methods[q] = true) : nearS cs m (L.drop k) = cs[n].name := by
  unfold nearS
  have h0 : mIdx cs m L[k] = q := by rw [he, mIdx_nat hn, idxI_at hq h hy]
  rw [lookL_yes hk (by omega), he, if_pos (by show (0 : Int) ≤ (n : Int); omega)]
  exact nmAt_nat hn
theorem nearS_end {cs : List Cls} {m : ByteArray} {L : List Int} {k : Nat} (hk : ¬ k < L.length) : nearS cs m (L.drop k) = ByteArray.empty := by
  unfold nearS
  rw [lookL_end hk, if_neg (by decide)]

set_option maxRecDepth 100000 in
set_option maxHeartbeats 2000000 in
theorem nearest_any (A B : Option Addr) (c cB : Nat) (cs : List Cls) (L : List Int) (N : List ByteArray) (m : ByteArray) (w : World) (hl : cs.length ≤ 8796093022208) (hsl : Sl Lay.cls w A cs) (hlk : Hid (LensOk cs)) (hNl : N.length ≤ 8796093022208) (HNM : Hid (N = L.map (nmAt cs))) (hsB : Sl Lay.str w B N)
    (HLB : Hid (∀ x ∈ L, 0 ≤ x ∧ x < (cs.length : Int))) (HFN : Hid (∀ x ∈ L, fnd cs (nmAt cs x) = x)) :
    Calls Tryd.prog 11 #[.agg #[.slice A cs.length c], .slice B N.length cB, .string m] w fun e w' => e = .returned (.string (nearS cs m L)) ∧ Below w.heap.size w w' := by
  have hb0 : Below w.heap.size w (w.alloc (.cells #[.slice A cs.length c] 24)) := (by repeat (first | assumption | exact Below.refl _ _ | apply bw_alloc | apply bw_drew | apply bw_drewN | apply bw_later | apply bw_step))
  have bx := Box.new w [.slice A cs.length c] 24
  go_enter Tryd.func11, Tryd.ntmps11
  go_wp2_with fail
  generalize hW : w.alloc _ = W
  rw [hW] at hb0 bx
  clear hW
  go_loopw [7] (fun v wr => ∃ k : Nat, k ≤ N.length ∧ v = .int .i64 k ∧ Hid (nearS cs m L = nearS cs m (L.drop k)) ∧ Box wr w.heap.size [.slice A cs.length c] 24 ∧ Below w.heap.size w wr) (fun v _ => N.length - (intOf v).toNat)
  case atStart => exact ⟨0, Nat.zero_le _, rfl, rfl, bx, hb0⟩
  case round =>
    clear bx hb0
    obtain ⟨k, hk, rfl, HR, bx, hbw⟩ := hrel
    have x0 := bx.cell 0 rfl
    have xl := bx.lt
    by_cases hlt : k < N.length
    · have hkL : k < L.length := by rw [HNM.out, List.length_map] at hlt; exact hlt
      have hj := HLB.out L[k] (List.getElem_mem hkL)
      obtain ⟨n, hjn⟩ : ∃ n : Nat, L[k] = n := ⟨L[k].toNat, by omega⟩
      have hn : n < cs.length := by omega
      have hnm : N[k] = cs[n].name := by simp only [HNM.out, List.getElem_map, hjn, nmAt_nat hn]
      have HF : Hid (fnd cs cs[n].name = n) := by
        have := HFN.out L[k] (List.getElem_mem hkL)
        rw [hjn, nmAt_nat hn] at this; exact this
      obtain ⟨bN, oN, rfl, hbN, dN⟩ := (hsB.mono hbw).str_at hlt
      rw [hnm] at dN
      have hml := (hlk.out _ (List.getElem_mem hn)).2.1
      have HNO : Hid ((∀ i (hi : i < cs[n].methods.length), isSg m cs[n].methods[i] = false) → nearS cs m (L.drop k) = nearS cs m (L.drop (k + 1))) := fun h => nearS_no hkL hn hjn h
      have HYES : Hid (∀ q (hq : q < cs[n].methods.length), (∀ i (hi : i < q), isSg m (cs[n].methods[i]'(Nat.lt_trans hi hq)) = false) → isSg m cs[n].methods[q] = true → nearS cs m (L.drop k) = cs[n].name) := fun q hq h hy => nearS_yes hkL hn hjn hq h hy
      clear hnm hj
      obtain ⟨b0, o, A2, c2, A3, c3, rfl, hb, d0, d1, d2, d3, hc2, hs2, hc3, hs3⟩ := hsl.cls_at hn
      have hwr := hbw.size
      have D0 := Lib.hid (fun W (hW : Below w.heap.size w W) => keptC d0 hb hW)
      have D1 := Lib.hid (fun W (hW : Below w.heap.size w W) => keptC d1 hb hW)
      have D2 := Lib.hid (fun W (hW : Below w.heap.size w W) => keptC d2 hb hW)
      have D3 := Lib.hid (fun W (hW : Below w.heap.size w W) => keptC d3 hb hW)
      clear d0 d1 d2 d3
      go_upto_region 4 with fail
      go_cut [8] (fun s8 wx => ∃ (bC : Nat), s8 = .pointer (some ⟨bC, 0, none⟩) ∧ Box wx bC [.string cs[n].name, .string cs[n].super, .slice A2 cs[n].fields.length c2, .slice A3 cs[n].methods.length c3] 32 ∧ Box wx w.heap.size [.slice (some ⟨b0, o, none⟩) cs.length c] 24 ∧ Below w.heap.size w wx)
      case first =>
        have hnI : (n : Int) < (cs.length : Int) := by omega
        refine wp_region_RW 11 (by kernel_rfl) (by kernel_rfl) ?_
        refine RW.chunk (f := 4) [0, 1, 2, 3, 4, 5, 6] (by kernel_rfl) ?_
        ((simp only [pickOps, List.filterMap, List.getElem?_toArray, List.getElem?_cons_zero, List.getElem?_cons_succ]); (repeat (go_big_quiet_step (fail))); refine wpQuiet_nil ?_)
        refine RW.both 7 10 rfl rfl (by kernel_rfl) (by omega) (by omega) ?_ ?_
        · intro K hK
          go_wp2_with fail
          refine (refFind_any _ c cs cs[n].name _ hl (hsl.mono hbw.drew)).mono ?_
          rintro e w1 ⟨rfl, hb1⟩
          rw [HF.out]
          have hbw1 := below_step hbw.drew hb1
          have bx1 := bx.drew.mono hb1
          have d0 := D0.out _ hbw1
          have d1 := D1.out _ hbw1
          have d2 := D2.out _ hbw1
          have d3 := D3.out _ hbw1
          have hbl := Nat.lt_of_lt_of_le hb hbw1.size
          go_wp2_with fail
          refine hK _ _ hb1 ?_
          clear hK
          refine RW.chunk (f := 1) [8, 9] (by kernel_rfl) ?_
          ((simp only [pickOps, List.filterMap, List.getElem?_toArray, List.getElem?_cons_zero, List.getElem?_cons_succ]); (repeat (go_big_quiet_step (fail))); refine wpQuiet_nil ?_)
          refine RW.single 10 rfl (by kernel_rfl) (by omega) ?_
          intro K hK
          go_wp2_with fail
          refine hK _ _ (bw_alloc (Below.refl _ _)) ?_
          clear hK
          (refine RW.tail (by kernel_rfl) ?_; (simp only [List.drop_succ_cons, List.drop_zero]))
          go_wp2_with fail
          go_meet
          exact ⟨_, rfl, Box.new _ _ _, bx1.alloc _, bw_alloc hbw1⟩
        · intro K hK
          go_wp2_with fail
          refine hK _ _ (bw_alloc (Below.refl _ _)) ?_
          clear hK
          generalize hW : World.drew _ = W2
          have hbwz : Below w.heap.size w W2 := by rw [← hW]; exact (bw_alloc hbw).drew
          have bxz : Box W2 w.heap.size [.slice (some ⟨b0, o, none⟩) cs.length c] 24 := by rw [← hW]; exact (bx.alloc _).drew
          have byz : Box W2 wr.heap.size [.string ⟨#[]⟩, .string ⟨#[]⟩, .slice none 0 0, .slice none 0 0] 32 := by rw [← hW]; exact (Box.new _ _ _).drew
          clear hW
          refine RW.single 7 rfl (by kernel_rfl) (by omega) ?_
          intro K hK
          go_wp2_with fail
          refine (refFind_any _ c cs cs[n].name _ hl (hsl.mono hbwz)).mono ?_
          rintro e w1 ⟨rfl, hb1⟩
          rw [HF.out]
          have hbw1 := below_step hbwz hb1
          have bx1 := bxz.mono hb1
          have by1 := byz.mono hb1
          have d0 := D0.out _ hbw1
          have d1 := D1.out _ hbw1
          have d2 := D2.out _ hbw1
          have d3 := D3.out _ hbw1
          have hbl := Nat.lt_of_lt_of_le hb hbw1.size
          go_wp2_with fail
          refine hK _ _ hb1 ?_
          clear hK
          refine RW.chunk (f := 0) [8, 9] (by kernel_rfl) ?_
          ((simp only [pickOps, List.filterMap, List.getElem?_toArray, List.getElem?_cons_zero, List.getElem?_cons_succ]); (repeat (go_big_quiet_step (fail))); refine wpQuiet_nil ?_)
          have yl1 := by1.lt
          have yf := fun i => by1.free i
          have q0 := by1.cell 0 rfl
          have q1 := by1.cell 1 rfl
          have q2 := by1.cell 2 rfl
          have q3 := by1.cell 3 rfl
          (refine RW.tail (by kernel_rfl) ?_; (simp only [List.drop_succ_cons, List.drop_zero]))
          go_wp2_with fail
          go_meet
          obtain ⟨by4, hg⟩ := by1.store4 (.string cs[n].name) (.string cs[n].super) (.slice A2 cs[n].fields.length c2) (.slice A3 cs[n].methods.length c3)
          exact ⟨_, rfl, by4, bx1.grown hg (fun h => by have := Option.some.inj h; omega), hbw1.grown hg hbw1.size (fun k hk => by injection hk with hk; omega)⟩
      case rest =>
        obtain ⟨bC, rfl, by2, bx2, hbw2⟩ := hcut
        have hs4 := hs3.mono hbw2
        have y0 := by2.cell 0 rfl
        have y3 := by2.cell 3 rfl
        have yl := by2.lt
        go_wp2_with fail
        go_loop [9] (fun i => ∃ q : Nat, q ≤ cs[n].methods.length ∧ i = .int .i64 q ∧ Hid (∀ i (hi : i < q) (hi2 : i < cs[n].methods.length), isSg m cs[n].methods[i] = false)) (fun i => cs[n].methods.length - (intOf i).toNat)
        case atStart => exact ⟨0, Nat.zero_le _, rfl, fun i hi => by omega⟩
        case round =>
          obtain ⟨q, hq, rfl, HN⟩ := hrel
          by_cases hql : q < cs[n].methods.length
          · obtain ⟨bM, oM, AM, cM, rfl, hbM, e0, e1, e2, e3, hcM, hsM⟩ := hs4.sg_at hql
            cases hy : isSg m cs[n].methods[q] with
            | true =>
              have HE := Lib.hid (HYES.out q hql (fun i hi => HN.out i hi (by omega)) hy)
              unfold isSg at hy
              go_wp2_with fail
              go_ret
              exact ⟨by rw [HR.out, HE.out]; rfl, hbw2⟩
            | false =>
              have HE : Hid (∀ i (hi : i < q + 1) (hi2 : i < cs[n].methods.length), isSg m cs[n].methods[i] = false) := fun i hi hi2 => by
                by_cases e : i = q
                · subst e; exact hy
                · exact HN.out i (by omega) hi2
              unfold isSg at hy
              go_wp2_with fail
              go_round
              case rel => exact ⟨q + 1, by omega, by go_num, HE⟩
              case measure => simp [intOf]; omega
          · have HE := Lib.hid (HNO.out (fun i hi => HN.out i (by omega) hi))
            go_wp2_with fail
            go_roundw
            case rel => exact ⟨k + 1, by omega, by go_num, by rw [← HE.out]; exact HR, bx2, hbw2⟩
            case measure => simp [intOf]; omega
    · have HE := Lib.hid (nearS_end (cs := cs) (m := m) (L := L) (k := k) (fun h => hlt (by rw [HNM.out, List.length_map]; exact h)))
      go_wp2_with fail
      go_ret
      exact ⟨by rw [HR.out, HE.out]; rfl, hbw⟩
end Go.Proofs.YtafincpkehlcfaaDoor
