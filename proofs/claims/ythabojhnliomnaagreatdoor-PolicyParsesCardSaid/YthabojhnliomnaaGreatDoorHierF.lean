/-
  Chapter 10: looking a method or a field up along a chain.
-/
import Derived.Test.YthabojhnliomnaaGreatDoorHierE
namespace Go.Proofs.YthabojhnliomnaaGreatDoor
open Go.RowKit
set_option linter.unusedVariables false

/-- The index of the first method of this name in class j, or -1. -/
def mIdx (cs : List Cls) (m : ByteArray) (j : Int) : Int := match cs[j.toNat]? with
  | some x => idxI (isSg m) x.methods
  | none => -1
theorem mIdx_nat {cs : List Cls} {m : ByteArray} {j : Nat} (hj : j < cs.length) : mIdx cs m j = idxI (isSg m) cs[j].methods := by unfold mIdx; rw [Int.toNat_natCast, List.getElem?_eq_getElem hj]
/-- The first class of a list that has the method, and the method's index. -/
def lookL (cs : List Cls) (m : ByteArray) : List Int → Int × Int
  | [] => (-1, -1)
  | j :: r => if 0 ≤ mIdx cs m j then (j, mIdx cs m j) else lookL cs m r
def lookI (cs : List Cls) (m : ByteArray) (i : Int) : Int × Int := lookL cs m (chR cs i).1
theorem lookL_no {cs : List Cls} {m : ByteArray} {l : List Int} {k : Nat} (hk : k < l.length) (h : ¬ 0 ≤ mIdx cs m l[k]) : lookL cs m (l.drop k) = lookL cs m (l.drop (k + 1)) := by
  rw [List.drop_eq_getElem_cons hk, lookL, if_neg h]
theorem lookL_yes {cs : List Cls} {m : ByteArray} {l : List Int} {k : Nat} (hk : k < l.length) (h : 0 ≤ mIdx cs m l[k]) : lookL cs m (l.drop k) = (l[k], mIdx cs m l[k]) := by
  rw [List.drop_eq_getElem_cons hk, lookL, if_pos h]
theorem lookL_end {cs : List Cls} {m : ByteArray} {l : List Int} {k : Nat} (hk : ¬ k < l.length) : lookL cs m (l.drop k) = (-1, -1) := by
  rw [List.drop_eq_nil_of_le (by omega)]; rfl
theorem lookL_bd {cs : List Cls} {m : ByteArray} {l : List Int} (hb : ∀ x ∈ l, 0 ≤ x ∧ x < (cs.length : Int)) : (lookL cs m l = (-1, -1)) ∨ ∃ j k : Nat, ∃ hj : j < cs.length, ∃ hk : k < cs[j].methods.length, lookL cs m l = ((j : Int), (k : Int)) ∧ (j : Int) ∈ l ∧ idxI (isSg m) cs[j].methods = k := by
  induction l with
  | nil => exact Or.inl rfl
  | cons x r ih =>
    have hx := hb x (by simp)
    by_cases h : 0 ≤ mIdx cs m x
    · right
      obtain ⟨j, rfl⟩ : ∃ j : Nat, x = j := ⟨x.toNat, by omega⟩
      have hj : j < cs.length := by omega
      rw [mIdx_nat hj] at h
      have h2 := idxI_ge (isSg m) cs[j].methods
      refine ⟨j, (idxI (isSg m) cs[j].methods).toNat, hj, by omega, ?_, by simp, by omega⟩
      rw [lookL, mIdx_nat hj, if_pos h, Int.toNat_of_nonneg h]
    · rw [lookL, if_neg h]
      rcases ih (fun y hy => hb y (by simp [hy])) with h2 | ⟨j, k, hj, hk, h2, h3, h4⟩
      · exact Or.inl h2
      · exact Or.inr ⟨j, k, hj, hk, h2, by simp [h3], h4⟩
def LensOk (cs : List Cls) : Prop := ∀ x ∈ cs, x.fields.length ≤ 8796093022208 ∧ x.methods.length ≤ 8796093022208 ∧ ∀ y ∈ x.methods, y.params.length ≤ 8796093022208

set_option maxRecDepth 100000 in
set_option maxHeartbeats 1000000 in
theorem tLookup_any (A : Option Addr) (c b : Nat) (cs : List Cls) (i : Int) (m : ByteArray) (w : World) (hl : cs.length ≤ 8796093022208) (hi1 : -9223372036854775808 ≤ i) (hi : i < cs.length) (hT : TabV w A c b cs) (hok : Hid (NamesOk cs)) (hlk : Hid (LensOk cs)) :
    Calls Tryz.prog 105 #[.agg #[.slice A cs.length c, .map (some b)], .int .i64 i, .string m] w fun e w' => e = .returned (.tuple #[.int .i64 (lookI cs m i).1, .int .i64 (lookI cs m i).2]) ∧ Below w.heap.size w w' := by
  go_enter Tryz.func105, Tryz.ntmps105
  go_wp2_with fail
  have hb0 : Below w.heap.size w (w.alloc (.cells #[.slice A cs.length c, .map (some b)] 148)) := (by repeat (first | assumption | exact Below.refl _ _ | apply bw_alloc | apply bw_drew | apply bw_drewN | apply bw_later | apply bw_step))
  have hbx := Box.new w [.slice A cs.length c, .map (some b)] 148
  refine (tChain_any A c b cs i _ hl hi1 hi (hT.mono hb0) hok).mono ?_
  rintro e w2 ⟨⟨v2, rfl, hown2⟩, hb2⟩
  have hbx2 := hbx.mono hb2
  have hbw2 := below_step hb0 hb2
  have hLb := (chR_bd hi).1
  have hLl := chR_len hi
  have HLK : Hid (lookI cs m i = lookL cs m (chR cs i).1) := rfl
  generalize (chR cs i).1 = L at *
  have HLB := Lib.hid hLb
  have hxlt : w.heap.size < w2.heap.size := hbx2.lt
  clear hLb hbx hb2 hb0
  obtain ⟨AL, cL, rfl, hcL, hsL⟩ := IntsV.of_own hown2
  clear hown2
  go_wp2_with fail
  go_loopw [21] (fun i wr => ∃ k : Nat, k ≤ L.length ∧ i = .int .i64 k ∧ lookL cs m L = lookL cs m (L.drop k) ∧ Below w2.heap.size w2 wr) (fun i _ => L.length - (intOf i).toNat)
  case atStart => exact ⟨0, Nat.zero_le _, rfl, rfl, Below.refl _ _⟩
  case round =>
    obtain ⟨k, hk, rfl, HQ0, hbw⟩ := hrel
    have HQ := Lib.hid HQ0
    clear HQ0
    by_cases hlt : k < L.length
    · obtain ⟨bL, oL, rfl, hbL, dL⟩ := (hsL.mono hbw).int_at hlt
      have hj := HLB.out L[k] (List.getElem_mem hlt)
      have HN := Lib.hid (@lookL_no cs m L k hlt)
      have HY := Lib.hid (@lookL_yes cs m L k hlt)
      obtain ⟨j, hjj⟩ : ∃ j : Nat, L[k] = j := ⟨L[k].toNat, by omega⟩
      rw [hjj] at dL hj HN HY
      clear hjj
      have hjl : j < cs.length := by omega
      rw [mIdx_nat hjl] at HN HY
      have hbx3 := hbx2.mono hbw
      have e0 := hbx3.cell 0 rfl
      have hxl := hbx3.lt
      obtain ⟨b0, o, A2, c2, A3, c3, rfl, hb, d0, d1, d2, d3, hc2, hs2, hc3, hs3⟩ := (hT.sl.mono (below_step hbw2 hbw)).cls_at hjl
      have hml := (hlk.out _ (List.getElem_mem hjl)).2.1
      go_wp2_with fail
      refine (methodIn_any cs[j] A2 A3 c2 c3 m _ (by omega) hs3).mono ?_
      rintro e w3 ⟨rfl, hb3⟩
      by_cases hq : 0 ≤ idxI (isSg m) cs[j].methods
      · have HE := Lib.hid (HY.out hq)
        go_wp2_with fail
        go_ret2
        exact ⟨by rw [HLK.out, HQ.out, HE.out]; rfl, below_step hbw2 (below_step hbw hb3)⟩
      · have HE := Lib.hid (HN.out (by omega))
        go_wp2_with fail
        go_roundw
        case rel => exact ⟨k + 1, by omega, by go_num, by rw [HQ.out, HE.out], below_step hbw hb3⟩
        case measure => simp [intOf]; omega
    · have HE := Lib.hid (@lookL_end cs m L k hlt)
      go_wp2_with fail
      go_ret2
      exact ⟨by rw [HLK.out, HQ.out, HE.out]; rfl, below_step hbw2 hbw⟩
end Go.Proofs.YthabojhnliomnaaGreatDoor
