/-
  Chapter 10: Supers and IsSub; looking a method or a field up along a chain.
-/
import Derived.Test.YtafincpkehlcfaaHierD
import Derived.Test.YtafincpkehlcfaaSortS
namespace Go.Proofs.Ytafincpkehlcfaa
open Go.RowKit
set_option linter.unusedVariables false

/-! ### slices.Index and slices.Contains at strings -/
def isStr (s x : ByteArray) : Bool := s.toList == x.toList
def hasS (l : List ByteArray) (s : ByteArray) : Bool := decide (0 ≤ idxI (isStr s) l)
theorem hasS_iff {l : List ByteArray} {s : ByteArray} : hasS l s = true ↔ s ∈ l := by
  unfold hasS idxI
  rw [decide_eq_true_eq]
  cases h : l.findIdx? (isStr s) with
  | none =>
    rw [List.findIdx?_eq_none_iff] at h
    constructor
    · intro h1; simp at h1
    · intro h1
      have := h s h1
      unfold isStr at this
      rw [eqS_iff.2 rfl] at this
      cases this
  | some i =>
    obtain ⟨hi, h1, _⟩ := List.findIdx?_eq_some_iff_getElem.1 h
    constructor
    · intro _
      rw [eqS_iff.1 h1]
      exact List.getElem_mem hi
    · intro _; simp

set_option maxHeartbeats 1000000 in
theorem sIndex_any (A : Option Addr) (c : Nat) (l : List ByteArray) (s : ByteArray) (w : World) (hl : l.length ≤ 9223372036854775807) (hs : Sl Lay.str w A l) :
    Calls Try.prog 29 #[.slice A l.length c, .string s] w fun e w' => e = .returned (.int .i64 (idxI (isStr s) l)) ∧ w = w' := by
  go_enter Try.func29, Try.ntmps29
  go_wp2_with fail
  go_loop [5, 8] (fun j i => ∃ k : Nat, k ≤ l.length ∧ i = .int .i64 k ∧ Hid (∀ i (hi : i < k) (hi2 : i < l.length), isStr s l[i] = false)) (fun _ i => l.length - (intOf i).toNat)
  case atStart => exact ⟨0, Nat.zero_le _, rfl, fun i hi => by omega⟩
  case round =>
    obtain ⟨k, hk, rfl, HN⟩ := hrel
    by_cases hlt : k < l.length
    · obtain ⟨b, o, rfl, hb, d0⟩ := hs.str_at hlt
      cases hq : isStr s l[k] with
      | true =>
        have HE := Lib.hid (idxI_at hlt (fun i hi => HN.out i hi (by omega)) hq)
        unfold isStr at hq
        go_wp2_with fail
        go_ret
        exact ⟨by rw [HE.out]; rfl, rfl⟩
      | false =>
        have HE : Hid (∀ i (hi : i < k + 1) (hi2 : i < l.length), isStr s l[i] = false) := fun i hi hi2 => by
          by_cases e : i = k
          · subst e; exact hq
          · exact HN.out i (by omega) hi2
        unfold isStr at hq
        go_wp2_with fail
        go_round
        case rel => exact ⟨k + 1, by omega, by go_num, HE⟩
        case measure => simp [intOf]; omega
    · have HE := Lib.hid (idxI_none (p := isStr s) (l := l) (fun i hi => HN.out i (by omega) hi))
      go_wp2_with fail
      go_ret
      exact ⟨by rw [HE.out]; rfl, rfl⟩
theorem sContains_any (A : Option Addr) (c : Nat) (l : List ByteArray) (s : ByteArray) (w : World) (hl : l.length ≤ 9223372036854775807) (hs : Sl Lay.str w A l) :
    Calls Try.prog 22 #[.slice A l.length c, .string s] w fun e w' => e = .returned (.bool (hasS l s)) ∧ w = w' := by
  go_enter Try.func22, Try.ntmps22
  go_wp2_with fail
  refine (sIndex_any A c l s _ hl hs).mono ?_
  rintro e w1 ⟨rfl, rfl⟩
  go_wp2_with fail
  go_ret
  exact ⟨rfl, rfl⟩

/-! ### Supers, IsSub -/
def nmAt (cs : List Cls) (i : Int) : ByteArray := ((cs[i.toNat]?).map (·.name)).getD ByteArray.empty
theorem nmAt_nat {cs : List Cls} {i : Nat} (hi : i < cs.length) : nmAt cs i = cs[i].name := by unfold nmAt; rw [Int.toNat_natCast, List.getElem?_eq_getElem hi]; rfl
def supersL (cs : List Cls) (s : ByteArray) : List ByteArray := (chR cs (fnd cs s)).1.map (nmAt cs)
theorem supersL_len (cs : List Cls) (s : ByteArray) : (supersL cs s).length ≤ cs.length := by unfold supersL; rw [List.length_map]; exact chR_len (fnd_bd cs s).2

set_option maxRecDepth 100000 in
set_option maxHeartbeats 1000000 in
theorem supers_any (A : Option Addr) (c : Nat) (cs : List Cls) (s : ByteArray) (w : World) (hl : cs.length ≤ 8796093022208) (hcc : cs.length ≤ c) (hsl : Sl Lay.cls w A cs) (hok : Hid (NamesOk cs)) (hs : okStr s) :
    Calls Try.prog 23 #[.agg #[.slice A cs.length c], .string s] w fun e w' => (∃ v, e = .returned v ∧ Own cellsStr 1 w.heap.size 9 w' v (supersL cs s)) ∧ Below w.heap.size w w' := by
  go_enter Try.func23, Try.ntmps23
  go_wp2_with fail
  have hb0 : Below w.heap.size w (w.alloc (.cells #[.slice A cs.length c] 28)) := (by repeat (first | assumption | exact Below.refl _ _ | apply bw_alloc | apply bw_drew | apply bw_drewN | apply bw_later | apply bw_step))
  refine (tableOf_any A c cs _ (by omega) hcc (hsl.mono hb0) hok).mono ?_
  rintro e w1 ⟨⟨b, rfl, hT⟩, hb1⟩
  have hbw1 := below_step hb0 hb1
  go_wp2_with fail
  have hbx := Box.new w1 [.slice A cs.length c, .map (some b)] 58
  have hbw2 : Below w.heap.size w (w1.alloc (.cells #[.slice A cs.length c, .map (some b)] 58)) := bw_alloc hbw1
  refine (tNamed_any A c b cs s _ hl (hT.mono (by repeat (first | assumption | exact Below.refl _ _ | apply bw_alloc | apply bw_drew | apply bw_drewN | apply bw_later | apply bw_step))) hok hs).mono ?_
  rintro e w2 ⟨⟨v2, rfl, hown2⟩, hb2⟩
  have hbx2 := hbx.mono hb2
  have hbw3 := below_step hbw2 hb2
  have hLb := (chR_bd (fnd_bd cs s).2).1
  have hLl := chR_len (fnd_bd cs s).2
  have HSP : Hid (supersL cs s = (chR cs (fnd cs s)).1.map (nmAt cs)) := rfl
  generalize (chR cs (fnd cs s)).1 = L at *
  have HLB := Lib.hid hLb
  have hxlt : w1.heap.size < w2.heap.size := hbx2.lt
  clear hLb hbx hb2 hb1 hb0 hbw2 hT
  obtain ⟨AL, cL, rfl, hcL, hsL⟩ := IntsV.of_own hown2
  clear hown2
  go_wp2_with fail
  go_loopw [6, 15] (fun v i wr => ∃ k : Nat, k ≤ L.length ∧ i = .int .i64 k ∧ Own cellsStr 1 w2.heap.size 9 wr v ((L.take k).map (nmAt cs)) ∧ Below w2.heap.size w2 wr) (fun _ i _ => L.length - (intOf i).toNat)
  case atStart => exact ⟨0, Nat.zero_le _, rfl, Own.nil, Below.refl _ _⟩
  case round =>
    obtain ⟨k, hk, rfl, hown, hbw⟩ := hrel
    by_cases hlt : k < L.length
    · obtain ⟨bL, oL, rfl, hbL, dL⟩ := (hsL.mono hbw).int_at hlt
      have hj := HLB.out L[k] (List.getElem_mem hlt)
      have HM : Hid ((L.take (k + 1)).map (nmAt cs) = (L.take k).map (nmAt cs) ++ [nmAt cs L[k]]) := by show _ = _; rw [List.take_succ_eq_append_getElem hlt, List.map_append]; rfl
      obtain ⟨j, hjj⟩ : ∃ j : Nat, L[k] = j := ⟨L[k].toNat, by omega⟩
      rw [hjj] at dL hj HM
      clear hjj
      have hjl : j < cs.length := by omega
      rw [nmAt_nat hjl] at HM
      have hbx3 := hbx2.mono hbw
      have e0 := hbx3.cell 0 rfl
      have hxl := hbx3.lt
      obtain ⟨b0, o, A2, c2, A3, c3, rfl, hb, d0, d1, d2, d3, hc2, hs2, hc3, hs3⟩ := (hsl.mono (below_step hbw3 hbw)).cls_at hjl
      have hml : ((L.take k).map (nmAt cs)).length ≤ k := by rw [List.length_map, List.length_take]; omega
      have hsz := hbw.size
      go_wp2_with (at_builtin; refine wpList_pushG strsTy cellsStr_ok rfl (.tmp 19) (.tmp 26) rfl w2.heap.size _ _ rfl (Own.alloc hown _) cs[j].name _ _ rfl (cells_one_new _ _ _) (by unfold maxLen; omega) (by omega) ?_ ?_; (simp; omega); intro v3 w3 hown3 hb3 hg3)
      go_roundw
      case rel => exact ⟨k + 1, by omega, by go_num, by rw [HM.out]; exact hown3, (bw_alloc hbw).trans hb3⟩
      case measure => simp [intOf]; omega
    · have HK := Lib.hid (show L.take k = L from List.take_of_length_le (by omega))
      rw [HK.out, ← HSP.out] at hown
      go_wp2_with fail
      go_ret
      exact ⟨⟨_, rfl, hown.weaken hbw3.size⟩, below_step hbw3 hbw⟩

theorem isSub_any (A : Option Addr) (c : Nat) (cs : List Cls) (a s : ByteArray) (w : World) (hl : cs.length ≤ 8796093022208) (hcc : cs.length ≤ c) (hsl : Sl Lay.cls w A cs) (hok : Hid (NamesOk cs)) (ha : okStr a) :
    Calls Try.prog 13 #[.agg #[.slice A cs.length c], .string a, .string s] w fun e w' => e = .returned (.bool (hasS (supersL cs a) s)) ∧ Below w.heap.size w w' := by
  go_enter Try.func13, Try.ntmps13
  go_wp2_with fail
  have hb0 : Below w.heap.size w (w.alloc (.cells #[.slice A cs.length c] 28)) := (by repeat (first | assumption | exact Below.refl _ _ | apply bw_alloc | apply bw_drew | apply bw_drewN | apply bw_later | apply bw_step))
  refine (supers_any A c cs a _ hl hcc (hsl.mono hb0) hok ha).mono ?_
  rintro e w1 ⟨⟨v1, rfl, hown1⟩, hb1⟩
  have hll := supersL_len cs a
  obtain ⟨A1, c1, rfl, hc1, hs1⟩ := StrsV.of_own hown1
  go_wp2_with fail
  refine (sContains_any A1 c1 (supersL cs a) s _ (by omega) hs1).mono ?_
  rintro e w2 ⟨rfl, rfl⟩
  go_wp2_with fail
  go_ret
  exact ⟨rfl, below_step hb0 hb1⟩
end Go.Proofs.Ytafincpkehlcfaa
