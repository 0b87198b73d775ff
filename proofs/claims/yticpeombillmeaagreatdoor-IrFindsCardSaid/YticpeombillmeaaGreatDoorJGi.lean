/-
  Chapter 10: Supers and IsSub; looking a method or a field up along a chain.
  Chapter 10: looking a method or a field up along a chain.
  Chapter 10: Lookup.
-/
import Derived.Test.YticpeombillmeaaGreatDoorJGh
import Derived.Test.YticpeombillmeaaGreatDoorJGb
namespace Go.Proofs.YticpeombillmeaaGreatDoor
open Go.RowKit
set_option linter.unusedVariables false

/-! ### slices.Index and slices.Contains at strings -/
def isStr (s x : ByteArray) : Bool := s.toList == x.toList
def hasS (l : List ByteArray) (s : ByteArray) : Bool := decide (0 ≤ idxI (isStr s) l)
set_option maxHeartbeats 1000000 in
theorem sIndex_any (A : Option Addr) (c : Nat) (l : List ByteArray) (s : ByteArray) (w : World) (hl : l.length ≤ 9223372036854775807) (hs : Sl Lay.str w A l) :
    Calls Tryz.prog 51 #[.slice A l.length c, .string s] w fun e w' => e = .returned (.int .i64 (idxI (isStr s) l)) ∧ w = w' := by
  go_enter Tryz.func51, Tryz.ntmps51
  go_wp2_with fail
  go_loop [5, 8] (fun j i => ∃ k : Nat, k ≤ l.length ∧ i = .int .i64 k ∧ Hid (∀ i (hi : i < k) (hi2 : i < l.length), isStr s l[i] = false)) (fun _ i => l.length - (intOf i).toNat)
  case atStart => exact ⟨0, Nat.zero_le _, rfl, fun i hi => by omega⟩
  case round =>
    obtain ⟨k, hk, rfl, HN⟩ := hrel
    by_cases hlt : k < l.length
    · obtain ⟨b, o, rfl, hb, d0⟩ := hs.str_at hlt
      cases hq : isStr s l[k] with
      | true =>
        have HE := Lib.hid (idxI_at hlt (fun i hi => HN.out i hi (by omega)) hq)
        unfold isStr at hq
        go_wp2_with fail
        go_ret
        exact ⟨by rw [HE.out]; rfl, rfl⟩
      | false =>
        have HE : Hid (∀ i (hi : i < k + 1) (hi2 : i < l.length), isStr s l[i] = false) := fun i hi hi2 => by
          by_cases e : i = k
          · subst e; exact hq
          · exact HN.out i (by omega) hi2
        unfold isStr at hq
        go_wp2_with fail
        go_round
        case rel => exact ⟨k + 1, by omega, by go_num, HE⟩
        case measure => simp [intOf]; omega
    · have HE := Lib.hid (idxI_none (p := isStr s) (l := l) (fun i hi => HN.out i (by omega) hi))
      go_wp2_with fail
      go_ret
      exact ⟨by rw [HE.out]; rfl, rfl⟩
theorem sContains_any (A : Option Addr) (c : Nat) (l : List ByteArray) (s : ByteArray) (w : World) (hl : l.length ≤ 9223372036854775807) (hs : Sl Lay.str w A l) :
    Calls Tryz.prog 26 #[.slice A l.length c, .string s] w fun e w' => e = .returned (.bool (hasS l s)) ∧ w = w' := by
  go_enter Tryz.func26, Tryz.ntmps26
  go_wp2_with fail
  refine (sIndex_any A c l s _ hl hs).mono ?_
  rintro e w1 ⟨rfl, rfl⟩
  go_wp2_with fail
  go_ret
  exact ⟨rfl, rfl⟩

/-! ### Supers, IsSub -/
def nmAt (cs : List Cls) (i : Int) : ByteArray := ((cs[i.toNat]?).map (·.name)).getD ByteArray.empty
theorem nmAt_nat {cs : List Cls} {i : Nat} (hi : i < cs.length) : nmAt cs i = cs[i].name := by unfold nmAt; rw [Int.toNat_natCast, List.getElem?_eq_getElem hi]; rfl
def supersL (cs : List Cls) (s : ByteArray) : List ByteArray := (chR cs (fnd cs s)).1.map (nmAt cs)
theorem supersL_len (cs : List Cls) (s : ByteArray) : (supersL cs s).length ≤ cs.length := by unfold supersL; rw [List.length_map]; exact chR_len (fnd_bd cs s).2

set_option maxRecDepth 100000 in
set_option maxHeartbeats 1000000 in
theorem supers_any (A : Option Addr) (c : Nat) (cs : List Cls) (s : ByteArray) (w : World) (hl : cs.length ≤ 8796093022208) (hcc : cs.length ≤ c) (hsl : Sl Lay.cls w A cs) (hok : Hid (NamesOk cs)) (hs : okStr s) :
    Calls Tryz.prog 172 #[.agg #[.slice A cs.length c], .string s] w fun e w' => (∃ v, e = .returned v ∧ Own cellsStr 1 w.heap.size 9 w' v (supersL cs s)) ∧ Below w.heap.size w w' := by
  go_enter Tryz.func172, Tryz.ntmps172
  go_wp2_with fail
  have hb0 : Below w.heap.size w (w.alloc (.cells #[.slice A cs.length c] 24)) := (by repeat (first | assumption | exact Below.refl _ _ | apply bw_alloc | apply bw_drew | apply bw_drewN | apply bw_later | apply bw_step))
  refine (tableOf_any A c cs _ (by omega) hcc (hsl.mono hb0) hok).mono ?_
  rintro e w1 ⟨⟨b, rfl, hT⟩, hb1⟩
  have hbw1 := below_step hb0 hb1
  go_wp2_with fail
  have hbx := Box.new w1 [.slice A cs.length c, .map (some b)] 145
  have hbw2 : Below w.heap.size w (w1.alloc (.cells #[.slice A cs.length c, .map (some b)] 145)) := bw_alloc hbw1
  refine (tNamed_any A c b cs s _ hl (hT.mono (by repeat (first | assumption | exact Below.refl _ _ | apply bw_alloc | apply bw_drew | apply bw_drewN | apply bw_later | apply bw_step))) hok hs).mono ?_
  rintro e w2 ⟨⟨v2, rfl, hown2⟩, hb2⟩
  have hbx2 := hbx.mono hb2
  have hbw3 := below_step hbw2 hb2
  have hLb := (chR_bd (fnd_bd cs s).2).1
  have hLl := chR_len (fnd_bd cs s).2
  have HSP : Hid (supersL cs s = (chR cs (fnd cs s)).1.map (nmAt cs)) := rfl
  generalize (chR cs (fnd cs s)).1 = L at *
  have HLB := Lib.hid hLb
  have hxlt : w1.heap.size < w2.heap.size := hbx2.lt
  clear hLb hbx hb2 hb1 hb0 hbw2 hT
  obtain ⟨AL, cL, rfl, hcL, hsL⟩ := IntsV.of_own hown2
  clear hown2
  go_wp2_with fail
  go_loopw [6, 15] (fun v i wr => ∃ k : Nat, k ≤ L.length ∧ i = .int .i64 k ∧ Own cellsStr 1 w2.heap.size 9 wr v ((L.take k).map (nmAt cs)) ∧ Below w2.heap.size w2 wr) (fun _ i _ => L.length - (intOf i).toNat)
  case atStart => exact ⟨0, Nat.zero_le _, rfl, Own.nil, Below.refl _ _⟩
  case round =>
    obtain ⟨k, hk, rfl, hown, hbw⟩ := hrel
    by_cases hlt : k < L.length
    · obtain ⟨bL, oL, rfl, hbL, dL⟩ := (hsL.mono hbw).int_at hlt
      have hj := HLB.out L[k] (List.getElem_mem hlt)
      have HM : Hid ((L.take (k + 1)).map (nmAt cs) = (L.take k).map (nmAt cs) ++ [nmAt cs L[k]]) := by show _ = _; rw [List.take_succ_eq_append_getElem hlt, List.map_append]; rfl
      obtain ⟨j, hjj⟩ : ∃ j : Nat, L[k] = j := ⟨L[k].toNat, by omega⟩
      rw [hjj] at dL hj HM
      clear hjj
      have hjl : j < cs.length := by omega
      rw [nmAt_nat hjl] at HM
      have hbx3 := hbx2.mono hbw
      have e0 := hbx3.cell 0 rfl
      have hxl := hbx3.lt
      obtain ⟨b0, o, A2, c2, A3, c3, rfl, hb, d0, d1, d2, d3, hc2, hs2, hc3, hs3⟩ := (hsl.mono (below_step hbw3 hbw)).cls_at hjl
      have hml : ((L.take k).map (nmAt cs)).length ≤ k := by rw [List.length_map, List.length_take]; omega
      have hsz := hbw.size
      go_wp2_with (at_builtin; refine wpList_pushG strsTy cellsStr_ok rfl (.tmp 19) (.tmp 26) rfl w2.heap.size _ _ rfl (Own.alloc hown _) cs[j].name _ _ rfl (cells_one_new _ _ _) (by unfold maxLen; omega) (by omega) ?_ ?_; (simp; omega); intro v3 w3 hown3 hb3 hg3)
      go_roundw
      case rel => exact ⟨k + 1, by omega, by go_num, by rw [HM.out]; exact hown3, (bw_alloc hbw).trans hb3⟩
      case measure => simp [intOf]; omega
    · have HK := Lib.hid (show L.take k = L from List.take_of_length_le (by omega))
      rw [HK.out, ← HSP.out] at hown
      go_wp2_with fail
      go_ret
      exact ⟨⟨_, rfl, hown.weaken hbw3.size⟩, below_step hbw3 hbw⟩

theorem isSub_any (A : Option Addr) (c : Nat) (cs : List Cls) (a s : ByteArray) (w : World) (hl : cs.length ≤ 8796093022208) (hcc : cs.length ≤ c) (hsl : Sl Lay.cls w A cs) (hok : Hid (NamesOk cs)) (ha : okStr a) :
    Calls Tryz.prog 145 #[.agg #[.slice A cs.length c], .string a, .string s] w fun e w' => e = .returned (.bool (hasS (supersL cs a) s)) ∧ Below w.heap.size w w' := by
  go_enter Tryz.func145, Tryz.ntmps145
  go_wp2_with fail
  have hb0 : Below w.heap.size w (w.alloc (.cells #[.slice A cs.length c] 24)) := (by repeat (first | assumption | exact Below.refl _ _ | apply bw_alloc | apply bw_drew | apply bw_drewN | apply bw_later | apply bw_step))
  refine (supers_any A c cs a _ hl hcc (hsl.mono hb0) hok ha).mono ?_
  rintro e w1 ⟨⟨v1, rfl, hown1⟩, hb1⟩
  have hll := supersL_len cs a
  obtain ⟨A1, c1, rfl, hc1, hs1⟩ := StrsV.of_own hown1
  go_wp2_with fail
  refine (sContains_any A1 c1 (supersL cs a) s _ (by omega) hs1).mono ?_
  rintro e w2 ⟨rfl, rfl⟩
  go_wp2_with fail
  go_ret
  exact ⟨rfl, below_step hb0 hb1⟩
end Go.Proofs.YticpeombillmeaaGreatDoor
namespace Go.Proofs.YticpeombillmeaaGreatDoor
open Go.RowKit
set_option linter.unusedVariables false

/-- The index of the first method of this name in class j, or -1. -/
def mIdx (cs : List Cls) (m : ByteArray) (j : Int) : Int := match cs[j.toNat]? with
  | some x => idxI (isSg m) x.methods
  | none => -1
theorem mIdx_nat {cs : List Cls} {m : ByteArray} {j : Nat} (hj : j < cs.length) : mIdx cs m j = idxI (isSg m) cs[j].methods := by unfold mIdx; rw [Int.toNat_natCast, List.getElem?_eq_getElem hj]
/-- The first class of a list that has the method, and the method's index. -/
def lookL (cs : List Cls) (m : ByteArray) : List Int → Int × Int
  | [] => (-1, -1)
  | j :: r => if 0 ≤ mIdx cs m j then (j, mIdx cs m j) else lookL cs m r
def lookI (cs : List Cls) (m : ByteArray) (i : Int) : Int × Int := lookL cs m (chR cs i).1
theorem lookL_no {cs : List Cls} {m : ByteArray} {l : List Int} {k : Nat} (hk : k < l.length) (h : ¬ 0 ≤ mIdx cs m l[k]) : lookL cs m (l.drop k) = lookL cs m (l.drop (k + 1)) := by
  rw [List.drop_eq_getElem_cons hk, lookL, if_neg h]
theorem lookL_yes {cs : List Cls} {m : ByteArray} {l : List Int} {k : Nat} (hk : k < l.length) (h : 0 ≤ mIdx cs m l[k]) : lookL cs m (l.drop k) = (l[k], mIdx cs m l[k]) := by
  rw [List.drop_eq_getElem_cons hk, lookL, if_pos h]
theorem lookL_end {cs : List Cls} {m : ByteArray} {l : List Int} {k : Nat} (hk : ¬ k < l.length) : lookL cs m (l.drop k) = (-1, -1) := by
  rw [List.drop_eq_nil_of_le (by omega)]; rfl
theorem lookL_bd {cs : List Cls} {m : ByteArray} {l : List Int} (hb : ∀ x ∈ l, 0 ≤ x ∧ x < (cs.length : Int)) : (lookL cs m l = (-1, -1)) ∨ ∃ j k : Nat, ∃ hj : j < cs.length, ∃ hk : k < cs[j].methods.length, lookL cs m l = ((j : Int), (k : Int)) ∧ (j : Int) ∈ l ∧ idxI (isSg m) cs[j].methods = k := by
  induction l with
  | nil => exact Or.inl rfl
  | cons x r ih =>
    have hx := hb x (by simp)
    by_cases h : 0 ≤ mIdx cs m x
    · right
      obtain ⟨j, rfl⟩ : ∃ j : Nat, x = j := ⟨x.toNat, by omega⟩
      have hj : j < cs.length := by omega
      rw [mIdx_nat hj] at h
      have h2 := idxI_ge (isSg m) cs[j].methods
      refine ⟨j, (idxI (isSg m) cs[j].methods).toNat, hj, by omega, ?_, by simp, by omega⟩
      rw [lookL, mIdx_nat hj, if_pos h, Int.toNat_of_nonneg h]
    · rw [lookL, if_neg h]
      rcases ih (fun y hy => hb y (by simp [hy])) with h2 | ⟨j, k, hj, hk, h2, h3, h4⟩
      · exact Or.inl h2
      · exact Or.inr ⟨j, k, hj, hk, h2, by simp [h3], h4⟩
def LensOk (cs : List Cls) : Prop := ∀ x ∈ cs, x.fields.length ≤ 8796093022208 ∧ x.methods.length ≤ 8796093022208 ∧ ∀ y ∈ x.methods, y.params.length ≤ 8796093022208

set_option maxRecDepth 100000 in
set_option maxHeartbeats 1000000 in
theorem tLookup_any (A : Option Addr) (c b : Nat) (cs : List Cls) (i : Int) (m : ByteArray) (w : World) (hl : cs.length ≤ 8796093022208) (hi1 : -9223372036854775808 ≤ i) (hi : i < cs.length) (hT : TabV w A c b cs) (hok : Hid (NamesOk cs)) (hlk : Hid (LensOk cs)) :
    Calls Tryz.prog 147 #[.agg #[.slice A cs.length c, .map (some b)], .int .i64 i, .string m] w fun e w' => e = .returned (.tuple #[.int .i64 (lookI cs m i).1, .int .i64 (lookI cs m i).2]) ∧ Below w.heap.size w w' := by
  go_enter Tryz.func147, Tryz.ntmps147
  go_wp2_with fail
  have hb0 : Below w.heap.size w (w.alloc (.cells #[.slice A cs.length c, .map (some b)] 145)) := (by repeat (first | assumption | exact Below.refl _ _ | apply bw_alloc | apply bw_drew | apply bw_drewN | apply bw_later | apply bw_step))
  have hbx := Box.new w [.slice A cs.length c, .map (some b)] 145
  refine (tChain_any A c b cs i _ hl hi1 hi (hT.mono hb0) hok).mono ?_
  rintro e w2 ⟨⟨v2, rfl, hown2⟩, hb2⟩
  have hbx2 := hbx.mono hb2
  have hbw2 := below_step hb0 hb2
  have hLb := (chR_bd hi).1
  have hLl := chR_len hi
  have HLK : Hid (lookI cs m i = lookL cs m (chR cs i).1) := rfl
  generalize (chR cs i).1 = L at *
  have HLB := Lib.hid hLb
  have hxlt : w.heap.size < w2.heap.size := hbx2.lt
  clear hLb hbx hb2 hb0
  obtain ⟨AL, cL, rfl, hcL, hsL⟩ := IntsV.of_own hown2
  clear hown2
  go_wp2_with fail
  go_loopw [21] (fun i wr => ∃ k : Nat, k ≤ L.length ∧ i = .int .i64 k ∧ lookL cs m L = lookL cs m (L.drop k) ∧ Below w2.heap.size w2 wr) (fun i _ => L.length - (intOf i).toNat)
  case atStart => exact ⟨0, Nat.zero_le _, rfl, rfl, Below.refl _ _⟩
  case round =>
    obtain ⟨k, hk, rfl, HQ0, hbw⟩ := hrel
    have HQ := Lib.hid HQ0
    clear HQ0
    by_cases hlt : k < L.length
    · obtain ⟨bL, oL, rfl, hbL, dL⟩ := (hsL.mono hbw).int_at hlt
      have hj := HLB.out L[k] (List.getElem_mem hlt)
      have HN := Lib.hid (@lookL_no cs m L k hlt)
      have HY := Lib.hid (@lookL_yes cs m L k hlt)
      obtain ⟨j, hjj⟩ : ∃ j : Nat, L[k] = j := ⟨L[k].toNat, by omega⟩
      rw [hjj] at dL hj HN HY
      clear hjj
      have hjl : j < cs.length := by omega
      rw [mIdx_nat hjl] at HN HY
      have hbx3 := hbx2.mono hbw
      have e0 := hbx3.cell 0 rfl
      have hxl := hbx3.lt
      obtain ⟨b0, o, A2, c2, A3, c3, rfl, hb, d0, d1, d2, d3, hc2, hs2, hc3, hs3⟩ := (hT.sl.mono (below_step hbw2 hbw)).cls_at hjl
      have hml := (hlk.out _ (List.getElem_mem hjl)).2.1
      go_wp2_with fail
      refine (methodIn_any cs[j] A2 A3 c2 c3 m _ (by omega) hs3).mono ?_
      rintro e w3 ⟨rfl, hb3⟩
      by_cases hq : 0 ≤ idxI (isSg m) cs[j].methods
      · have HE := Lib.hid (HY.out hq)
        go_wp2_with fail
        go_ret2
        exact ⟨by rw [HLK.out, HQ.out, HE.out]; rfl, below_step hbw2 (below_step hbw hb3)⟩
      · have HE := Lib.hid (HN.out (by omega))
        go_wp2_with fail
        go_roundw
        case rel => exact ⟨k + 1, by omega, by go_num, by rw [HQ.out, HE.out], below_step hbw hb3⟩
        case measure => simp [intOf]; omega
    · have HE := Lib.hid (@lookL_end cs m L k hlt)
      go_wp2_with fail
      go_ret2
      exact ⟨by rw [HLK.out, HQ.out, HE.out]; rfl, below_step hbw2 hbw⟩

/-- The first class of a list that has the field: the class's name and the field's type. -/
def fIdx (cs : List Cls) (n : ByteArray) (j : Int) : Int := match cs[j.toNat]? with
  | some x => idxI (isFld n) x.fields
  | none => -1
theorem fIdx_nat {cs : List Cls} {n : ByteArray} {j : Nat} (hj : j < cs.length) : fIdx cs n j = idxI (isFld n) cs[j].fields := by unfold fIdx; rw [Int.toNat_natCast, List.getElem?_eq_getElem hj]
def fTyp (cs : List Cls) (n : ByteArray) (j : Int) : ByteArray := match cs[j.toNat]? with
  | some x => ((x.fields[(fIdx cs n j).toNat]?).map (·.typ)).getD ByteArray.empty
  | none => ByteArray.empty
def fieldL (cs : List Cls) (n : ByteArray) : List Int → ByteArray × ByteArray × Bool
  | [] => (ByteArray.empty, ByteArray.empty, false)
  | j :: r => if 0 ≤ fIdx cs n j then (nmAt cs j, fTyp cs n j, true) else fieldL cs n r
def fieldS (cs : List Cls) (s n : ByteArray) : ByteArray × ByteArray × Bool := fieldL cs n (chR cs (fnd cs s)).1
theorem fieldL_no {cs : List Cls} {m : ByteArray} {l : List Int} {k : Nat} (hk : k < l.length) (h : ¬ 0 ≤ fIdx cs m l[k]) : fieldL cs m (l.drop k) = fieldL cs m (l.drop (k + 1)) := by
  rw [List.drop_eq_getElem_cons hk, fieldL, if_neg h]
theorem fieldL_yes {cs : List Cls} {m : ByteArray} {l : List Int} {k : Nat} (hk : k < l.length) (h : 0 ≤ fIdx cs m l[k]) : fieldL cs m (l.drop k) = (nmAt cs l[k], fTyp cs m l[k], true) := by
  rw [List.drop_eq_getElem_cons hk, fieldL, if_pos h]
theorem fieldL_end {cs : List Cls} {m : ByteArray} {l : List Int} {k : Nat} (hk : ¬ k < l.length) : fieldL cs m (l.drop k) = (ByteArray.empty, ByteArray.empty, false) := by
  rw [List.drop_eq_nil_of_le (by omega)]; rfl
theorem fTyp_nat {cs : List Cls} {n : ByteArray} {j k : Nat} (hj : j < cs.length) (hk : k < cs[j].fields.length) (h : idxI (isFld n) cs[j].fields = k) : fTyp cs n j = cs[j].fields[k].typ := by
  unfold fTyp
  rw [fIdx_nat hj, h, Int.toNat_natCast, Int.toNat_natCast, List.getElem?_eq_getElem hj]
  simp only [List.getElem?_eq_getElem hk]
  rfl

set_option maxRecDepth 100000 in
set_option maxHeartbeats 1000000 in
theorem field_any (A : Option Addr) (c : Nat) (cs : List Cls) (s n : ByteArray) (w : World) (hl : cs.length ≤ 8796093022208) (hcc : cs.length ≤ c) (hsl : Sl Lay.cls w A cs) (hok : Hid (NamesOk cs)) (hlk : Hid (LensOk cs)) (hs : okStr s) :
    Calls Tryz.prog 146 #[.agg #[.slice A cs.length c], .string s, .string n] w fun e w' => e = .returned (.tuple #[.string (fieldS cs s n).1, .string (fieldS cs s n).2.1, .bool (fieldS cs s n).2.2]) ∧ Below w.heap.size w w' := by
  go_enter Tryz.func146, Tryz.ntmps146
  go_wp2_with fail
  have hb0 : Below w.heap.size w (w.alloc (.cells #[.slice A cs.length c] 24)) := (by repeat (first | assumption | exact Below.refl _ _ | apply bw_alloc | apply bw_drew | apply bw_drewN | apply bw_later | apply bw_step))
  refine (tableOf_any A c cs _ (by omega) hcc (hsl.mono hb0) hok).mono ?_
  rintro e w1 ⟨⟨b, rfl, hT⟩, hb1⟩
  have hbw1 := below_step hb0 hb1
  go_wp2_with fail
  have hbx := Box.new w1 [.slice A cs.length c, .map (some b)] 145
  have hbw2 : Below w.heap.size w (w1.alloc (.cells #[.slice A cs.length c, .map (some b)] 145)) := bw_alloc hbw1
  refine (tNamed_any A c b cs s _ hl (hT.mono (by repeat (first | assumption | exact Below.refl _ _ | apply bw_alloc | apply bw_drew | apply bw_drewN | apply bw_later | apply bw_step))) hok hs).mono ?_
  rintro e w2 ⟨⟨v2, rfl, hown2⟩, hb2⟩
  have hbx2 := hbx.mono hb2
  have hbw3 := below_step hbw2 hb2
  have hLb := (chR_bd (fnd_bd cs s).2).1
  have hLl := chR_len (fnd_bd cs s).2
  have HSP : Hid (fieldS cs s n = fieldL cs n (chR cs (fnd cs s)).1) := rfl
  generalize (chR cs (fnd cs s)).1 = L at *
  have HLB := Lib.hid hLb
  have hxlt : w1.heap.size < w2.heap.size := hbx2.lt
  clear hLb hbx hb2 hb1 hb0 hbw2 hT
  obtain ⟨AL, cL, rfl, hcL, hsL⟩ := IntsV.of_own hown2
  clear hown2
  go_wp2_with fail
  go_loopw [20] (fun i wr => ∃ k : Nat, k ≤ L.length ∧ i = .int .i64 k ∧ fieldL cs n L = fieldL cs n (L.drop k) ∧ Below w2.heap.size w2 wr) (fun i _ => L.length - (intOf i).toNat)
  case atStart => exact ⟨0, Nat.zero_le _, rfl, rfl, Below.refl _ _⟩
  case round =>
    obtain ⟨k, hk, rfl, HQ0, hbw⟩ := hrel
    have HQ := Lib.hid HQ0
    clear HQ0
    by_cases hlt : k < L.length
    · obtain ⟨bL, oL, rfl, hbL, dL⟩ := (hsL.mono hbw).int_at hlt
      have hj := HLB.out L[k] (List.getElem_mem hlt)
      have HN := Lib.hid (@fieldL_no cs n L k hlt)
      have HY := Lib.hid (@fieldL_yes cs n L k hlt)
      obtain ⟨j, hjj⟩ : ∃ j : Nat, L[k] = j := ⟨L[k].toNat, by omega⟩
      rw [hjj] at dL hj HN HY
      clear hjj
      have hjl : j < cs.length := by omega
      rw [fIdx_nat hjl] at HN HY
      rw [nmAt_nat hjl] at HY
      have hbx3 := hbx2.mono hbw
      have e0 := hbx3.cell 0 rfl
      have hxl := hbx3.lt
      obtain ⟨b0, o, A2, c2, A3, c3, rfl, hb, d0, d1, d2, d3, hc2, hs2, hc3, hs3⟩ := (hsl.mono (below_step hbw3 hbw)).cls_at hjl
      have hml := (hlk.out _ (List.getElem_mem hjl)).1
      go_wp2_with fail
      have hb4 : Below wr.heap.size wr (wr.alloc (.cells #[.string cs[j].name, .string cs[j].super, .slice A2 cs[j].fields.length c2, .slice A3 cs[j].methods.length c3] 64)) := (by repeat (first | assumption | exact Below.refl _ _ | apply bw_alloc | apply bw_drew | apply bw_drewN | apply bw_later | apply bw_step))
      have hbx4 := Box.new wr [.string cs[j].name, .string cs[j].super, .slice A2 cs[j].fields.length c2, .slice A3 cs[j].methods.length c3] 64
      refine (fieldIn_any cs[j] A2 A3 c2 c3 n _ (by omega) (hs2.mono hb4)).mono ?_
      rintro e w3 ⟨rfl, hb3⟩
      by_cases hq : 0 ≤ idxI (isFld n) cs[j].fields
      · obtain ⟨q, hqq⟩ : ∃ q : Nat, idxI (isFld n) cs[j].fields = q := ⟨_, (Int.toNat_of_nonneg hq).symm⟩
        have hql : q < cs[j].fields.length := by have := (idxI_ge (isFld n) cs[j].fields).2; omega
        have HE := Lib.hid (HY.out hq)
        rw [fTyp_nat hjl hql hqq] at HE
        rw [hqq] at hq ⊢
        clear hqq
        have hbx5 := hbx4.mono hb3
        have f0 := hbx5.cell 0 rfl
        have f2 := hbx5.cell 2 rfl
        have hxl5 := hbx5.lt
        obtain ⟨bF, oF, rfl, hbF, g0, g1⟩ := ((hs2.mono hb4).mono hb3).fld_at hql
        have hqi : (q : Int) < (cs[j].fields.length : Int) := by omega
        clear d0 d1 d2 d3 e0 dL
        go_wp2_with fail
        refine wp_region_RW 11 (by kernel_rfl) (by kernel_rfl) ?_
        refine RW.chunk (f := 0) [0, 1, 2, 3, 4, 5, 6, 7, 8, 9, 10] (by kernel_rfl) ?_
        ((simp only [pickOps, List.filterMap, List.getElem?_toArray, List.getElem?_cons_zero, List.getElem?_cons_succ]); (repeat (go_big_quiet_step (fail))); refine wpQuiet_nil ?_)
        (refine RW.done (by kernel_rfl) (by kernel_rfl) ?_)
        go_wp2_with fail
        go_ret3
        exact ⟨by rw [HSP.out, HQ.out, HE.out]; rfl, (below_step hbw3 (below_step hbw (below_step hb4 hb3))).drew⟩
      · have HE := Lib.hid (HN.out (by omega))
        go_wp2_with fail
        go_roundw
        case rel => exact ⟨k + 1, by omega, by go_num, by rw [HQ.out, HE.out], below_step hbw (below_step hb4 hb3)⟩
        case measure => simp [intOf]; omega
    · have HE := Lib.hid (@fieldL_end cs n L k hlt)
      go_wp2_with fail
      go_ret3
      exact ⟨by rw [HSP.out, HQ.out, HE.out]; rfl, below_step hbw3 hbw⟩
end Go.Proofs.YticpeombillmeaaGreatDoor
namespace Go.Proofs.YticpeombillmeaaGreatDoor
open Go.RowKit
set_option linter.unusedVariables false

theorem cloneStrs_any (A : Option Addr) (c : Nat) (l : List ByteArray) (w : World) (hl : l.length ≤ 8796093022208) (hs : Sl Lay.str w A l) :
    Calls Tryz.prog 85 #[.slice A l.length c] w fun e w' => (∃ v, e = .returned v ∧ Own cellsStr 1 w.heap.size 9 w' v l) ∧ Below w.heap.size w w' := by
  cases A with
  | none =>
    have hn : l = [] := by
      cases l with
      | nil => rfl
      | cons x r => obtain ⟨b, o, vs, e, _⟩ := hs 0 x rfl; cases e
    subst hn
    refine (Tryz.slices_Clone_string_nil 0 c w).mono ?_
    rintro e w' ⟨rfl, rfl⟩
    exact ⟨⟨_, rfl, Own.nil⟩, Below.refl _ _⟩
  | some a =>
    cases l with
    | nil =>
      refine (Tryz.slices_Clone_string_zero a c w).mono ?_
      rintro e w' ⟨v', rfl, h1, _, h2⟩
      exact ⟨⟨_, rfl, h1⟩, h2⟩
    | cons x r =>
      obtain ⟨b, o, e, _, _⟩ := hs.str_at (i := 0) (by simp)
      obtain rfl := Option.some.inj e
      have hq := Tryz.slices_Clone_string b o (x :: r).length c (x :: r) w (Nat.le_refl _) (by omega) (fun j hj => by
        obtain ⟨b', o', e, _, h⟩ := hs.str_at hj
        simp only [Option.some.injEq, Addr.mk.injEq] at e
        obtain ⟨rfl, rfl, _⟩ := e
        rw [h, List.getD_eq_getElem?_getD, List.getElem?_eq_getElem hj]
        rfl)
      refine hq.mono ?_
      rintro e w' ⟨v', rfl, h1, _, h2⟩
      refine ⟨⟨_, rfl, ?_⟩, h2⟩
      rw [List.take_length] at h1
      unfold Own
      rw [show (x :: r).flatMap cellsStr = (x :: r).map (fun x => Value.string x) from flatMap_one (c := fun x => Value.string x) _]
      exact h1

structure LookR (cs : List Cls) (q : Int × Int) (e : Ending) (w' : World) : Prop where
  no : q = (-1, -1) → e = .returned (.tuple #[.string ByteArray.empty, .agg #[.string ByteArray.empty, .bool false, .slice none 0 0, .string ByteArray.empty], .bool false])
  yes : ∀ (j k : Nat) (hj : j < cs.length) (hk : k < cs[j].methods.length), q = ((j : Int), (k : Int)) →
    ∃ v, e = .returned (.tuple #[.string cs[j].name, .agg #[.string cs[j].methods[k].name, .bool cs[j].methods[k].static, v, .string cs[j].methods[k].result], .bool true]) ∧ StrsV w' v cs[j].methods[k].params
def lookS (cs : List Cls) (s m : ByteArray) : Int × Int := lookI cs m (fnd cs s)

set_option maxRecDepth 100000 in
set_option maxHeartbeats 1000000 in
theorem lookup_any (A : Option Addr) (c : Nat) (cs : List Cls) (s m : ByteArray) (w : World) (hl : cs.length ≤ 8796093022208) (hcc : cs.length ≤ c) (hsl : Sl Lay.cls w A cs) (hok : Hid (NamesOk cs)) (hlk : Hid (LensOk cs)) (hs : okStr s) :
    Calls Tryz.prog 108 #[.agg #[.slice A cs.length c], .string s, .string m] w fun e w' => LookR cs (lookS cs s m) e w' ∧ Below w.heap.size w w' := by
  have hfb := fnd_bd cs s
  have hcase := lookL_bd (cs := cs) (m := m) (chR_bd hfb.2).1
  have HLS : Hid (lookS cs s m = lookL cs m (chR cs (fnd cs s)).1) := rfl
  go_enter Tryz.func108, Tryz.ntmps108
  go_wp2_with fail
  have hb0 : Below w.heap.size w ((w.alloc (.cells #[.slice A cs.length c] 24)).alloc (.cells #[.string ByteArray.empty, .bool false, .slice none 0 0, .string ByteArray.empty] 68)) := (by repeat (first | assumption | exact Below.refl _ _ | apply bw_alloc | apply bw_drew | apply bw_drewN | apply bw_later | apply bw_step))
  have hbs := Box.new (w.alloc (.cells #[.slice A cs.length c] 24)) [.string ByteArray.empty, .bool false, .slice none 0 0, .string ByteArray.empty] 68
  rw [show (w.alloc (.cells #[.slice A cs.length c] 24)).heap.size = w.heap.size + 1 by simp] at hbs
  refine (tableOf_any A c cs _ (by omega) hcc (hsl.mono hb0) hok).mono ?_
  rintro e w1 ⟨⟨b, rfl, hT⟩, hb1⟩
  have hbw1 := below_step hb0 hb1
  have hbs1 := hbs.mono hb1
  clear hbs
  have hz1 := hbs1.lt
  go_wp2_with fail
  have hbx := Box.new w1 [.slice A cs.length c, .map (some b)] 145
  have hbw2 : Below w.heap.size w (w1.alloc (.cells #[.slice A cs.length c, .map (some b)] 145)) := bw_alloc hbw1
  have hbt : Below w1.heap.size w1 (w1.alloc (.cells #[.slice A cs.length c, .map (some b)] 145)).drew := (by repeat (first | assumption | exact Below.refl _ _ | apply bw_alloc | apply bw_drew | apply bw_drewN | apply bw_later | apply bw_step))
  refine wp_region_RW 11 (by kernel_rfl) (by kernel_rfl) ?_
  refine RW.chunk (f := 7) [0, 1, 2, 4] (by kernel_rfl) ?_
  ((simp only [pickOps, List.filterMap, List.getElem?_toArray, List.getElem?_cons_zero, List.getElem?_cons_succ]); (repeat (go_big_quiet_step (fail))); refine wpQuiet_nil ?_)
  refine RW.single 3 rfl (by kernel_rfl) (by omega) ?_
  intro K hK
  go_wp2_with fail
  refine (tFind_any A c b cs s _ (hT.mono hbt) hs).mono ?_
  rintro e w2 ⟨rfl, hb2⟩
  go_wp2_with fail
  refine hK _ _ hb2 ?_
  clear hK
  refine RW.single 5 rfl (by kernel_rfl) (by omega) ?_
  intro K hK
  go_wp2_with fail
  refine (tLookup_any A c b cs (fnd cs s) m _ hl (by omega) hfb.2 (hT.mono (below_step hbt hb2)) hok hlk).mono ?_
  rintro e w3 ⟨rfl, hb3⟩
  go_wp2_with fail
  refine hK _ _ hb3 ?_
  clear hK
  refine RW.chunk (f := 0) [6, 7, 8, 9, 10] (by kernel_rfl) ?_
  ((simp only [pickOps, List.filterMap, List.getElem?_toArray, List.getElem?_cons_zero, List.getElem?_cons_succ]); (repeat (go_big_quiet_step (fail))); refine wpQuiet_nil ?_)
  (refine RW.done (by kernel_rfl) (by kernel_rfl) ?_)
  have hb13 := below_step (below_step hbt hb2) hb3
  have hbw3 := below_step hbw1 hb13
  have hbs3 := hbs1.mono hb13
  have hbx3 := (hbx.drew.mono hb2).mono hb3
  have HL2 : Hid (lookI cs m (fnd cs s) = lookL cs m (chR cs (fnd cs s)).1) := rfl
  clear hb2 hb3 hbt hbw2 hbw1 hb1 hb0 hbx hbs1 hb13
  rw [HL2.out]
  rcases hcase with hno | ⟨j, k, hj, hk, hyes, hmem, hidx⟩
  · rw [hno]
    have c0 := hbs3.cell 0 rfl
    have c1 := hbs3.cell 1 rfl
    have c2 := hbs3.cell 2 rfl
    have c3 := hbs3.cell 3 rfl
    have f0 := hbs3.free 0
    have f1 := hbs3.free 1
    have f2 := hbs3.free 2
    have f3 := hbs3.free 3
    have hz3 := hbs3.lt
    go_wp2_with fail
    obtain ⟨hbz, hgz⟩ := hbs3.store4 (.string { data := #[] }) (.bool false) (.slice none 0 0) (.string { data := #[] })
    have hbw4 := hbw3.grown hgz hbw3.size (fun k hk => by injection hk with hk; omega)
    generalize ((((w3.setCell ⟨w.heap.size + 1, 0, none⟩ (.string { data := #[] })).setCell ⟨w.heap.size + 1, 1, none⟩ (.bool false)).setCell ⟨w.heap.size + 1, 2, none⟩ (.slice none 0 0)).setCell ⟨w.heap.size + 1, 3, none⟩ (.string { data := #[] })) = wz at *
    have q0 := hbz.cell 0 rfl
    have q1 := hbz.cell 1 rfl
    have q2 := hbz.cell 2 rfl
    have q3 := hbz.cell 3 rfl
    refine bodyPost_ret (v := .tuple #[.string { data := #[] }, .agg #[.string { data := #[] }, .bool false, .slice none 0 0, .string { data := #[] }], .bool false]) (by simp [results, Tryz.results108, go_sem, q0, q1, q2, q3]) rfl ⟨⟨fun _ => rfl, fun j k hj hk h => ?_⟩, hbw4⟩
    rw [HLS.out, hno] at h
    injection h with h1 h2
    omega
  · have c0 := hbs3.cell 0 rfl
    have c1 := hbs3.cell 1 rfl
    have c2 := hbs3.cell 2 rfl
    have c3 := hbs3.cell 3 rfl
    have f0 := hbs3.free 0
    have f1 := hbs3.free 1
    have f2 := hbs3.free 2
    have f3 := hbs3.free 3
    have hz3 := hbs3.lt
    have hzx := hbx3.lt
    have e0 := hbx3.cell 0 rfl
    obtain ⟨b0, o, A2, cc2, A3, cc3, rfl, hb, d0, d1, d2, d3, hc2, hs2, hc3, hs3⟩ := hsl.cls_at hj
    obtain ⟨bM, oM, A4, cc4, rfl, hbM, m0, m1, m2, m3, hc4, hs4⟩ := hs3.sg_at hk
    have d0' := keptC d0 hb hbw3
    have d3' := keptC d3 hb hbw3
    have m0' := keptC m0 hbM hbw3
    have m1' := keptC m1 hbM hbw3
    have m2' := keptC m2 hbM hbw3
    have m3' := keptC m3 hbM hbw3
    have hpl := (hlk.out _ (List.getElem_mem hj)).2.2 _ (List.getElem_mem hk)
    rw [hyes]
    go_wp2_with fail
    obtain ⟨hbz, hgz⟩ := hbs3.store4 (.string cs[j].methods[k].name) (.bool cs[j].methods[k].static) (.slice A4 cs[j].methods[k].params.length cc4) (.string cs[j].methods[k].result)
    have hbw4 := hbw3.grown hgz hbw3.size (fun k hk => by injection hk with hk; omega)
    have hbx4 := hbx3.grown hgz (fun h => by have := Option.some.inj h; omega)
    generalize ((((w3.setCell ⟨w.heap.size + 1, 0, none⟩ (.string cs[j].methods[k].name)).setCell ⟨w.heap.size + 1, 1, none⟩ (.bool cs[j].methods[k].static)).setCell ⟨w.heap.size + 1, 2, none⟩ (.slice A4 cs[j].methods[k].params.length cc4)).setCell ⟨w.heap.size + 1, 3, none⟩ (.string cs[j].methods[k].result)) = wz at *
    clear c0 c1 c2 c3 f0 f1 f2 f3 d0' d3' m0' m1' m2' m3' hbs3 hbx3 hgz e0
    refine (cloneStrs_any A4 cc4 cs[j].methods[k].params _ (by omega) (hs4.mono hbw4)).mono ?_
    rintro e w5 ⟨⟨v5, rfl, hown5⟩, hb5⟩
    have hbw5 := below_step hbw4 hb5
    have hbs5 := hbz.mono hb5
    have hbx5 := hbx4.mono hb5
    have c0 := hbs5.cell 0 rfl
    have c1 := hbs5.cell 1 rfl
    have c2 := hbs5.cell 2 rfl
    have c3 := hbs5.cell 3 rfl
    have f0 := hbs5.free 0
    have f1 := hbs5.free 1
    have f2 := hbs5.free 2
    have f3 := hbs5.free 3
    have hz5 := hbs5.lt
    have hx5 := hbx5.lt
    have e0 := hbx5.cell 0 rfl
    have d0' := keptC d0 hb hbw5
    obtain ⟨A5, cc5, rfl, hc5, hs5⟩ := StrsV.of_own hown5
    go_wp2_with fail
    have hbs6 := hbs5.set 2 (.slice A5 cs[j].methods[k].params.length cc5)
    have hg6 := grown_set w5 (w.heap.size + 1) 2 (.slice A5 cs[j].methods[k].params.length cc5)
    have hbw6 := hbw5.grown hg6 hbw5.size (fun k hk => by injection hk with hk; omega)
    have hbx6 := hbx5.grown hg6 (fun h => by have := Option.some.inj h; omega)
    have hown6 := World.ownsRow.kept hown5 hg6 (own_ne hown5 (by have := hbz.lt; omega))
    generalize w5.setCell ⟨w.heap.size + 1, 2, none⟩ (.slice A5 cs[j].methods[k].params.length cc5) = w6 at *
    clear c0 c1 c2 c3 f0 f1 f2 f3 d0' e0 hbs5 hbx5 hg6 hs5
    have c0 := hbs6.cell 0 rfl
    have c1 := hbs6.cell 1 rfl
    have c2 := hbs6.cell 2 rfl
    have c3 := hbs6.cell 3 rfl
    have f0 := hbs6.free 0
    have f1 := hbs6.free 1
    have f2 := hbs6.free 2
    have f3 := hbs6.free 3
    have hz6 := hbs6.lt
    have hx6 := hbx6.lt
    have e0 := hbx6.cell 0 rfl
    have d0' := keptC d0 hb hbw6
    have hb6 := Nat.lt_of_lt_of_le hb hbw6.size
    refine wp_region_RW 8 (by kernel_rfl) (by kernel_rfl) ?_
    refine RW.chunk (f := 0) [0, 1, 2, 3, 4, 5, 6, 7] (by kernel_rfl) ?_
    ((simp only [pickOps, List.filterMap, List.getElem?_toArray, List.getElem?_cons_zero, List.getElem?_cons_succ]); (repeat (go_big_quiet_step (fail))); refine wpQuiet_nil ?_)
    (refine RW.tail (by kernel_rfl) ?_; (simp only [List.drop_succ_cons, List.drop_zero]))
    go_wp2_with fail
    obtain ⟨hbs7, hg7⟩ := hbs6.store4 (.string cs[j].methods[k].name) (.bool cs[j].methods[k].static) (.slice A5 cs[j].methods[k].params.length cc5) (.string cs[j].methods[k].result)
    have hbw7 := hbw6.grown hg7 hbw6.size (fun k hk => by injection hk with hk; omega)
    have hown7 := World.ownsRow.kept hown6 hg7 (own_ne hown5 (by have := hbz.lt; omega))
    generalize ((((w6.setCell ⟨w.heap.size + 1, 0, none⟩ (.string cs[j].methods[k].name)).setCell ⟨w.heap.size + 1, 1, none⟩ (.bool cs[j].methods[k].static)).setCell ⟨w.heap.size + 1, 2, none⟩ (.slice A5 cs[j].methods[k].params.length cc5)).setCell ⟨w.heap.size + 1, 3, none⟩ (.string cs[j].methods[k].result)) = w7 at *
    have q0 := hbs7.cell 0 rfl
    have q1 := hbs7.cell 1 rfl
    have q2 := hbs7.cell 2 rfl
    have q3 := hbs7.cell 3 rfl
    have hsv := StrsV.of_own (show Own cellsStr 1 wz.heap.size 9 w7.drew _ cs[j].methods[k].params from hown7)
    refine bodyPost_ret (v := .tuple #[.string cs[j].name, .agg #[.string cs[j].methods[k].name, .bool cs[j].methods[k].static, .slice A5 cs[j].methods[k].params.length cc5, .string cs[j].methods[k].result], .bool true]) (by simp [results, Tryz.results108, go_sem, q0, q1, q2, q3]) rfl ⟨⟨fun h => ?_, fun j' k' hj' hk' h => ?_⟩, hbw7.drew⟩
    · rw [HLS.out, hyes] at h
      injection h with h1 h2
      omega
    · rw [HLS.out, hyes] at h
      injection h with h1 h2
      obtain rfl : j = j' := by omega
      obtain rfl : k = k' := by omega
      exact ⟨_, rfl, hsv⟩
end Go.Proofs.YticpeombillmeaaGreatDoor
