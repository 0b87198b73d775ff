/-
  Chapter 10: looking a method or a field up along a chain.
-/
import Derived.Test.YtafincpkehlcfaaDoorHierE
namespace Go.Proofs.YtafincpkehlcfaaDoor
open Go.RowKit
set_option linter.unusedVariables false

/-- The index of the first method of this name in class j, or -1. -/
def mIdx (cs : List Cls) (m : ByteArray) (j : Int) : Int := match cs[j.toNat]? with
  | some x => idxI (isSg m) x.methods
  | none => -1
theorem mIdx_nat {cs : List Cls} {m : ByteArray} {j : Nat} (hj : j < cs.length) : mIdx cs m j = idxI (isSg m) cs[j].methods := by unfold mIdx; rw [Int.toNat_natCast, List.getElem?_eq_getElem hj]
/-- The first class of a list that has the method, and the method's index. -/
def lookL (cs : List Cls) (m : ByteArray) : List Int → Int × Int
  | [] => (-1, -1)
  | j :: r => if 0 ≤ mIdx cs m j then (j, mIdx cs m j) else lookL cs m r
def lookI (cs : List Cls) (m : ByteArray) (i : Int) : Int × Int := lookL cs m (chR cs i).1
theorem lookL_no {cs : List Cls} {m : ByteArray} {l : List Int} {k : Nat} (hk : k < l.length) (h : ¬ 0 ≤ mIdx cs m l[k]) : lookL cs m (l.drop k) = lookL cs m (l.drop (k + 1)) := by
  rw [List.drop_eq_getElem_cons hk, lookL, if_neg h]
theorem lookL_yes {cs : List Cls} {m : ByteArray} {l : List Int} {k : Nat} (hk : k < l.length) (h : 0 ≤ mIdx cs m l[k]) : lookL cs m (l.drop k) = (l[k], mIdx cs m l[k]) := by
  rw [List.drop_eq_getElem_cons hk, lookL, if_pos h]
theorem lookL_end {cs : List Cls} {m : ByteArray} {l : List Int} {k : Nat} (hk : ¬ k < l.length) : lookL cs m (l.drop k) = (-1, -1) := by
  rw [List.drop_eq_nil_of_le (by omega)]; rfl
theorem lookL_bd {cs : List Cls} {m : ByteArray} {l : List Int} (hb : ∀ x ∈ l, 0 ≤ x ∧ x < (cs.length : Int)) : (lookL cs m l = (-1, -1)) ∨ ∃ j k : Nat, ∃ hj : j < cs.length, ∃ hk : k < cs[j].methods.length, lookL cs m l = ((j : Int), (k : Int)) ∧ (j : Int) ∈ l ∧ idxI (isSg m) cs[j].methods = k := by
  induction l with
  | nil => exact Or.inl rfl
  | cons x r ih =>
    have hx := hb x (by simp)
    by_cases h : 0 ≤ mIdx cs m x
    · right
      obtain ⟨j, rfl⟩ : ∃ j : Nat, x = j := ⟨x.toNat, by omega⟩
      have hj : j < cs.length := by omega
      rw [mIdx_nat hj] at h
      have h2 := idxI_ge (isSg m) cs[j].methods
      refine ⟨j, (idxI (isSg m) cs[j].methods).toNat, hj, by omega, ?_, by simp, by omega⟩
      rw [lookL, mIdx_nat hj, if_pos h, Int.toNat_of_nonneg h]
    · rw [lookL, if_neg h]
      rcases ih (fun y hy => hb y (by simp [hy])) with h2 | ⟨j, k, hj, hk, h2, h3, h4⟩
      · exact Or.inl h2
      · exact Or.inr ⟨j, k, hj, hk, h2, by simp [h3], h4⟩
def LensOk (cs : List Cls) : Prop := ∀ x ∈ cs, x.fields.length ≤ 8796093022208 ∧ x.methods.length ≤ 8796093022208 ∧ ∀ y ∈ x.methods, y.params.length ≤ 8796093022208

set_option maxRecDepth 100000 in
set_option maxHeartbeats 1000000 in
theorem tLookup_any (A : Option Addr) (c b : Nat) (cs : List Cls) (i : Int) (m : ByteArray) (w : World) (hl : cs.length ≤ 8796093022208) (hi1 : -9223372036854775808 ≤ i) (hi : i < cs.length) (hT : TabV w A c b cs) (hok : Hid (NamesOk cs)) (hlk : Hid (LensOk cs)) :
    Calls Tryd.prog 25 #[.agg #[.slice A cs.length c, .map (some b)], .int .i64 i, .string m] w fun e w' => e = .returned (.tuple #[.int .i64 (lookI cs m i).1, .int .i64 (lookI cs m i).2]) ∧ Below w.heap.size w w' := by
  go_enter Tryd.func25, Tryd.ntmps25
  go_wp2_with fail
  have hb0 : Below w.heap.size w (w.alloc (.cells #[.slice A cs.length c, .map (some b)] 51)) := (by repeat (first | assumption | exact Below.refl _ _ | apply bw_alloc | apply bw_drew | apply bw_drewN | apply bw_later | apply bw_step))
  have hbx := Box.new w [.slice A cs.length c, .map (some b)] 51
  refine (tChain_any A c b cs i _ hl hi1 hi (hT.mono hb0) hok).mono ?_
  rintro e w2 ⟨⟨v2, rfl, hown2⟩, hb2⟩
  have hbx2 := hbx.mono hb2
  have hbw2 := below_step hb0 hb2
  have hLb := (chR_bd hi).1
  have hLl := chR_len hi
  have HLK : Hid (lookI cs m i = lookL cs m (chR cs i).1) := rfl
  generalize (chR cs i).1 = L at *
  have HLB := Lib.hid hLb
  have hxlt : w.heap.size < w2.heap.size := hbx2.lt
  clear hLb hbx hb2 hb0
  obtain ⟨AL, cL, rfl, hcL, hsL⟩ := IntsV.of_own hown2
  clear hown2
  go_wp2_with fail
  go_loopw [21] (fun i wr => ∃ k : Nat, k ≤ L.length ∧ i = .int .i64 k ∧ lookL cs m L = lookL cs m (L.drop k) ∧ Below w2.heap.size w2 wr) (fun i _ => L.length - (intOf i).toNat)
  case atStart => exact ⟨0, Nat.zero_le _, rfl, rfl, Below.refl _ _⟩
  case round =>
    obtain ⟨k, hk, rfl, HQ0, hbw⟩ := hrel
    have HQ := Lib.hid HQ0
    clear HQ0
    by_cases hlt : k < L.length
    · obtain ⟨bL, oL, rfl, hbL, dL⟩ := (hsL.mono hbw).int_at hlt
      have hj := HLB.out L[k] (List.getElem_mem hlt)
      have HN := Lib.hid (@lookL_no cs m L k hlt)
      have HY := Lib.hid (@lookL_yes cs m L k hlt)
      obtain ⟨j, hjj⟩ : ∃ j : Nat, L[k] = j := ⟨L[k].toNat, by omega⟩
      rw [hjj] at dL hj HN HY
      clear hjj
      have hjl : j < cs.length := by omega
      rw [mIdx_nat hjl] at HN HY
      have hbx3 := hbx2.mono hbw
      have e0 := hbx3.cell 0 rfl
      have hxl := hbx3.lt
      obtain ⟨b0, o, A2, c2, A3, c3, rfl, hb, d0, d1, d2, d3, hc2, hs2, hc3, hs3⟩ := (hT.sl.mono (below_step hbw2 hbw)).cls_at hjl
      have hml := (hlk.out _ (List.getElem_mem hjl)).2.1
      go_wp2_with fail
      refine (methodIn_any cs[j] A2 A3 c2 c3 m _ (by omega) hs3).mono ?_
      rintro e w3 ⟨rfl, hb3⟩
      by_cases hq : 0 ≤ idxI (isSg m) cs[j].methods
      · have HE := Lib.hid (HY.out hq)
        go_wp2_with fail
        go_ret2
        exact ⟨by rw [HLK.out, HQ.out, HE.out]; rfl, below_step hbw2 (below_step hbw hb3)⟩
      · have HE := Lib.hid (HN.out (by omega))
        go_wp2_with fail
        go_roundw
        case rel => exact ⟨k + 1, by omega, by go_num, by rw [HQ.out, HE.out], below_step hbw hb3⟩
        case measure => simp [intOf]; omega
    · have HE := Lib.hid (@lookL_end cs m L k hlt)
      go_wp2_with fail
      go_ret2
      exact ⟨by rw [HLK.out, HQ.out, HE.out]; rfl, below_step hbw2 hbw⟩

/-- The first class of a list that has the field: the class's name and the field's type. -/
def fIdx (cs : List Cls) (n : ByteArray) (j : Int) : Int := match cs[j.toNat]? with
  | some x => idxI (isFld n) x.fields
  | none => -1
theorem fIdx_nat {cs : List Cls} {n : ByteArray} {j : Nat} (hj : j < cs.length) : fIdx cs n j = idxI (isFld n) cs[j].fields := by unfold fIdx; rw [Int.toNat_natCast, List.getElem?_eq_getElem hj]
def fTyp (cs : List Cls) (n : ByteArray) (j : Int) : ByteArray := match cs[j.toNat]? with
  | some x => ((x.fields[(fIdx cs n j).toNat]?).map (·.typ)).getD ByteArray.empty
  | none => ByteArray.empty
def fieldL (cs : List Cls) (n : ByteArray) : List Int → ByteArray × ByteArray × Bool
  | [] => (ByteArray.empty, ByteArray.empty, false)
  | j :: r => if 0 ≤ fIdx cs n j then (nmAt cs j, fTyp cs n j, true) else fieldL cs n r
def fieldS (cs : List Cls) (s n : ByteArray) : ByteArray × ByteArray × Bool := fieldL cs n (chR cs (fnd cs s)).1
theorem fieldL_no {cs : List Cls} {m : ByteArray} {l : List Int} {k : Nat} (hk : k < l.length) (h : ¬ 0 ≤ fIdx cs m l[k]) : fieldL cs m (l.drop k) = fieldL cs m (l.drop (k + 1)) := by
  rw [List.drop_eq_getElem_cons hk, fieldL, if_neg h]
theorem fieldL_yes {cs : List Cls} {m : ByteArray} {l : List Int} {k : Nat} (hk : k < l.length) (h : 0 ≤ fIdx cs m l[k]) : fieldL cs m (l.drop k) = (nmAt cs l[k], fTyp cs m l[k], true) := by
  rw [List.drop_eq_getElem_cons hk, fieldL, if_pos h]
theorem fieldL_end {cs : List Cls} {m : ByteArray} {l : List Int} {k : Nat} (hk : ¬ k < l.length) : fieldL cs m (l.drop k) = (ByteArray.empty, ByteArray.empty, false) := by
  rw [List.drop_eq_nil_of_le (by omega)]; rfl
theorem fTyp_nat {cs : List Cls} {n : ByteArray} {j k : Nat} (hj : j < cs.length) (hk : k < cs[j].fields.length) (h : idxI (isFld n) cs[j].fields = k) : fTyp cs n j = cs[j].fields[k].typ := by
  unfold fTyp
  rw [fIdx_nat hj, h, Int.toNat_natCast, Int.toNat_natCast, List.getElem?_eq_getElem hj]
  simp only [List.getElem?_eq_getElem hk]
  rfl

set_option maxRecDepth 100000 in
set_option maxHeartbeats 1000000 in
theorem field_any (A : Option Addr) (c : Nat) (cs : List Cls) (s n : ByteArray) (w : World) (hl : cs.length ≤ 8796093022208) (hcc : cs.length ≤ c) (hsl : Sl Lay.cls w A cs) (hok : Hid (NamesOk cs)) (hlk : Hid (LensOk cs)) (hs : okStr s) :
    Calls Tryd.prog 18 #[.agg #[.slice A cs.length c], .string s, .string n] w fun e w' => e = .returned (.tuple #[.string (fieldS cs s n).1, .string (fieldS cs s n).2.1, .bool (fieldS cs s n).2.2]) ∧ Below w.heap.size w w' := by
  go_enter Tryd.func18, Tryd.ntmps18
  go_wp2_with fail
  have hb0 : Below w.heap.size w (w.alloc (.cells #[.slice A cs.length c] 24)) := (by repeat (first | assumption | exact Below.refl _ _ | apply bw_alloc | apply bw_drew | apply bw_drewN | apply bw_later | apply bw_step))
  refine (tableOf_any A c cs _ (by omega) hcc (hsl.mono hb0) hok).mono ?_
  rintro e w1 ⟨⟨b, rfl, hT⟩, hb1⟩
  have hbw1 := below_step hb0 hb1
  go_wp2_with fail
  have hbx := Box.new w1 [.slice A cs.length c, .map (some b)] 51
  have hbw2 : Below w.heap.size w (w1.alloc (.cells #[.slice A cs.length c, .map (some b)] 51)) := bw_alloc hbw1
  refine (tNamed_any A c b cs s _ hl (hT.mono (by repeat (first | assumption | exact Below.refl _ _ | apply bw_alloc | apply bw_drew | apply bw_drewN | apply bw_later | apply bw_step))) hok hs).mono ?_
  rintro e w2 ⟨⟨v2, rfl, hown2⟩, hb2⟩
  have hbx2 := hbx.mono hb2
  have hbw3 := below_step hbw2 hb2
  have hLb := (chR_bd (fnd_bd cs s).2).1
  have hLl := chR_len (fnd_bd cs s).2
  have HSP : Hid (fieldS cs s n = fieldL cs n (chR cs (fnd cs s)).1) := rfl
  generalize (chR cs (fnd cs s)).1 = L at *
  have HLB := Lib.hid hLb
  have hxlt : w1.heap.size < w2.heap.size := hbx2.lt
  clear hLb hbx hb2 hb1 hb0 hbw2 hT
  obtain ⟨AL, cL, rfl, hcL, hsL⟩ := IntsV.of_own hown2
  clear hown2
  go_wp2_with fail
  go_loopw [20] (fun i wr => ∃ k : Nat, k ≤ L.length ∧ i = .int .i64 k ∧ fieldL cs n L = fieldL cs n (L.drop k) ∧ Below w2.heap.size w2 wr) (fun i _ => L.length - (intOf i).toNat)
  case atStart => exact ⟨0, Nat.zero_le _, rfl, rfl, Below.refl _ _⟩
  case round =>
    obtain ⟨k, hk, rfl, HQ0, hbw⟩ := hrel
    have HQ := Lib.hid HQ0
    clear HQ0
    by_cases hlt : k < L.length
    · obtain ⟨bL, oL, rfl, hbL, dL⟩ := (hsL.mono hbw).int_at hlt
      have hj := HLB.out L[k] (List.getElem_mem hlt)
      have HN := Lib.hid (@fieldL_no cs n L k hlt)
      have HY := Lib.hid (@fieldL_yes cs n L k hlt)
      obtain ⟨j, hjj⟩ : ∃ j : Nat, L[k] = j := ⟨L[k].toNat, by omega⟩
      rw [hjj] at dL hj HN HY
      clear hjj
      have hjl : j < cs.length := by omega
      rw [fIdx_nat hjl] at HN HY
      rw [nmAt_nat hjl] at HY
      have hbx3 := hbx2.mono hbw
      have e0 := hbx3.cell 0 rfl
      have hxl := hbx3.lt
      obtain ⟨b0, o, A2, c2, A3, c3, rfl, hb, d0, d1, d2, d3, hc2, hs2, hc3, hs3⟩ := (hsl.mono (below_step hbw3 hbw)).cls_at hjl
      have hml := (hlk.out _ (List.getElem_mem hjl)).1
      go_wp2_with fail
      have hb4 : Below wr.heap.size wr (wr.alloc (.cells #[.string cs[j].name, .string cs[j].super, .slice A2 cs[j].fields.length c2, .slice A3 cs[j].methods.length c3] 32)) := (by repeat (first | assumption | exact Below.refl _ _ | apply bw_alloc | apply bw_drew | apply bw_drewN | apply bw_later | apply bw_step))
      have hbx4 := Box.new wr [.string cs[j].name, .string cs[j].super, .slice A2 cs[j].fields.length c2, .slice A3 cs[j].methods.length c3] 32
      refine (fieldIn_any cs[j] A2 A3 c2 c3 n _ (by omega) (hs2.mono hb4)).mono ?_
      rintro e w3 ⟨rfl, hb3⟩
      by_cases hq : 0 ≤ idxI (isFld n) cs[j].fields
      · obtain ⟨q, hqq⟩ : ∃ q : Nat, idxI (isFld n) cs[j].fields = q := ⟨_, (Int.toNat_of_nonneg hq).symm⟩
        have hql : q < cs[j].fields.length := by have := (idxI_ge (isFld n) cs[j].fields).2; omega
        have HE := Lib.hid (HY.out hq)
        rw [fTyp_nat hjl hql hqq] at HE
        rw [hqq] at hq ⊢
        clear hqq
        have hbx5 := hbx4.mono hb3
        have f0 := hbx5.cell 0 rfl
        have f2 := hbx5.cell 2 rfl
        have hxl5 := hbx5.lt
        obtain ⟨bF, oF, rfl, hbF, g0, g1⟩ := ((hs2.mono hb4).mono hb3).fld_at hql
        have hqi : (q : Int) < (cs[j].fields.length : Int) := by omega
        clear d0 d1 d2 d3 e0 dL
        go_wp2_with fail
        refine wp_region_RW 11 (by kernel_rfl) (by kernel_rfl) ?_
        refine RW.chunk (f := 0) [0, 1, 2, 3, 4, 5, 6, 7, 8, 9, 10] (by kernel_rfl) ?_
        ((simp only [pickOps, List.filterMap, List.getElem?_toArray, List.getElem?_cons_zero, List.getElem?_cons_succ]); (repeat (go_big_quiet_step (fail))); refine wpQuiet_nil ?_)
        (refine RW.done (by kernel_rfl) (by kernel_rfl) ?_)
        go_wp2_with fail
        go_ret3
        exact ⟨by rw [HSP.out, HQ.out, HE.out]; rfl, (below_step hbw3 (below_step hbw (below_step hb4 hb3))).drew⟩
      · have HE := Lib.hid (HN.out (by omega))
        go_wp2_with fail
        go_roundw
        case rel => exact ⟨k + 1, by omega, by go_num, by rw [HQ.out, HE.out], below_step hbw (below_step hb4 hb3)⟩
        case measure => simp [intOf]; omega
    · have HE := Lib.hid (@fieldL_end cs n L k hlt)
      go_wp2_with fail
      go_ret3
      exact ⟨by rw [HSP.out, HQ.out, HE.out]; rfl, below_step hbw3 hbw⟩
end Go.Proofs.YtafincpkehlcfaaDoor
