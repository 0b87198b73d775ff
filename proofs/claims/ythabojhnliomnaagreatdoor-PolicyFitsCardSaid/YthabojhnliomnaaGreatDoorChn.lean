/-
  Chapter 10: the reference's chains and look-ups in any hierarchy.
-/
import Derived.Test.YthabojhnliomnaaGreatDoorHierG
namespace Go.Proofs.YthabojhnliomnaaGreatDoor
open Go.RowKit
set_option linter.unusedVariables false

theorem hasS_atG {l : List ByteArray} {s : ByteArray} {k : Nat} (hk : k < l.length) (h : (l[k].toList == s.toList) = true) : hasS l s = true := by
  rw [hasS_iff, ← eqS_iff.1 h]; exact List.getElem_mem hk
theorem hasS_noneG {l : List ByteArray} {s : ByteArray} (h : ∀ i (hi : i < l.length), (l[i].toList == s.toList) = false) : hasS l s = false := by
  cases hq : hasS l s with
  | false => rfl
  | true =>
    rw [hasS_iff] at hq
    obtain ⟨i, hi, rfl⟩ := List.getElem_of_mem hq
    exact absurd (h i hi) (by rw [eqS_iff.2 rfl]; simp)
theorem nm_fndG {cs : List Cls} {s : ByteArray} (h : 0 ≤ fnd cs s) : nmAt cs (fnd cs s) = s := by
  unfold fnd idxI at *
  cases hq : cs.findIdx? (isCls s) with
  | none => rw [hq] at h; simp at h
  | some i =>
    obtain ⟨hi, h1, _⟩ := List.findIdx?_eq_some_iff_getElem.1 hq
    simp only
    rw [nmAt_nat hi]
    exact eqS_iff.1 h1
set_option maxHeartbeats 1000000 in
theorem refFind_g (A : Option Addr) (c : Nat) (cs : List Cls) (s : ByteArray) (w : World) (hl : cs.length ≤ 8796093022208) (hsl : Sl Lay.cls w A cs) :
    Calls Tryz.prog 110 #[.agg #[.slice A cs.length c], .string s] w fun e w' => e = .returned (.int .i64 (fnd cs s)) ∧ Below w.heap.size w w' := by
  have hb0 : Below w.heap.size w (w.alloc (.cells #[.slice A cs.length c] 42)) := (by repeat (first | assumption | exact Below.refl _ _ | apply bw_alloc | apply bw_drew | apply bw_drewN | apply bw_later | apply bw_step))
  have bx := Box.new w [.slice A cs.length c] 42
  have x0 := bx.cell 0 rfl
  have xl := bx.lt
  have hsl1 := hsl.mono hb0
  go_enter Tryz.func110, Tryz.ntmps110
  go_wp2_with fail
  generalize (w.alloc (.cells #[.slice A cs.length c] 42)) = W at *
  go_loop [5] (fun i => ∃ k : Nat, k ≤ cs.length ∧ i = .int .i64 k ∧ Hid (∀ i (hi : i < k) (hi2 : i < cs.length), isCls s cs[i] = false)) (fun i => cs.length - (intOf i).toNat)
  case atStart => exact ⟨0, Nat.zero_le _, rfl, fun i hi => by omega⟩
  case round =>
    obtain ⟨k, hk, rfl, HN⟩ := hrel
    by_cases hlt : k < cs.length
    · obtain ⟨b0, o, A2, c2, A3, c3, rfl, hb, d0, d1, d2, d3, hc2, hs2, hc3, hs3⟩ := hsl1.cls_at hlt
      cases hq : isCls s cs[k] with
      | true =>
        have HE : Hid (fnd cs s = k) := idxI_at hlt (fun i hi => HN.out i hi (by omega)) hq
        unfold isCls at hq
        go_wp2_with fail
        go_ret
        exact ⟨by rw [HE.out]; rfl, hb0⟩
      | false =>
        have HE : Hid (∀ i (hi : i < k + 1) (hi2 : i < cs.length), isCls s cs[i] = false) := fun i hi hi2 => by
          by_cases e : i = k
          · subst e; exact hq
          · exact HN.out i (by omega) hi2
        unfold isCls at hq
        go_wp2_with fail
        go_round
        case rel => exact ⟨k + 1, by omega, by go_num, HE⟩
        case measure => simp [intOf]; omega
    · have HE : Hid (fnd cs s = -1) := idxI_none (fun i hi => HN.out i (by omega) hi)
      go_wp2_with fail
      go_ret
      exact ⟨by rw [HE.out]; rfl, hb0⟩
set_option maxHeartbeats 1000000 in
theorem refIn_g (A : Option Addr) (c : Nat) (l : List ByteArray) (s : ByteArray) (w : World) (hl : l.length ≤ 8796093022208) (hs : Sl Lay.str w A l) :
    Calls Tryz.prog 119 #[.slice A l.length c, .string s] w fun e w' => e = .returned (.bool (hasS l s)) ∧ w = w' := by
  go_enter Tryz.func119, Tryz.ntmps119
  go_wp2_with fail
  go_loop [5] (fun i => ∃ k : Nat, k ≤ l.length ∧ i = .int .i64 k ∧ Hid (∀ i (hi : i < k) (hi2 : i < l.length), (l[i].toList == s.toList) = false)) (fun i => l.length - (intOf i).toNat)
  case atStart => exact ⟨0, Nat.zero_le _, rfl, fun i hi => by omega⟩
  case round =>
    obtain ⟨k, hk, rfl, HN⟩ := hrel
    by_cases hlt : k < l.length
    · obtain ⟨b, o, rfl, hb, d0⟩ := hs.str_at hlt
      cases hq : (l[k].toList == s.toList) with
      | true =>
        have HE := Lib.hid (hasS_atG hlt hq)
        go_wp2_with fail
        go_ret
        exact ⟨by rw [HE.out]; rfl, rfl⟩
      | false =>
        have HE : Hid (∀ i (hi : i < k + 1) (hi2 : i < l.length), (l[i].toList == s.toList) = false) := fun i hi hi2 => by
          by_cases e : i = k
          · subst e; exact hq
          · exact HN.out i (by omega) hi2
        go_wp2_with fail
        go_round
        case rel => exact ⟨k + 1, by omega, by go_num, HE⟩
        case measure => simp [intOf]; omega
    · have HE := Lib.hid (hasS_noneG (l := l) (s := s) (fun i hi => HN.out i (by omega) hi))
      go_wp2_with fail
      go_ret
      exact ⟨by rw [HE.out]; rfl, rfl⟩

/-- The chain of s, at the class named t behind the classes P. -/
structure ChS (cs : List Cls) (s t : ByteArray) (P : List Int) : Prop where
  all : chR cs (fnd cs s) = chGo (supI cs) (cs.length - P.length) (fnd cs t) P
  fix : ∀ j ∈ P, fnd cs (nmAt cs j) = j
  bd : ∀ j ∈ P, 0 ≤ j ∧ j < (cs.length : Int)
  nd : P.Nodup
theorem ChS.start (cs : List Cls) (s : ByteArray) : ChS cs s s [] := ⟨by simp [chR], by simp, by simp, by simp⟩
theorem ChS.mem {cs : List Cls} {s t : ByteArray} {P : List Int} (h : ChS cs s t P) (h0 : 0 ≤ fnd cs t) : hasS (P.map (nmAt cs)) t = true ↔ fnd cs t ∈ P := by
  rw [hasS_iff, List.mem_map]
  constructor
  · rintro ⟨x, hx, rfl⟩
    rw [h.fix x hx]; exact hx
  · intro hm
    exact ⟨_, hm, nm_fndG h0⟩
theorem ChS.stop {cs : List Cls} {s t : ByteArray} {P : List Int} (h : ChS cs s t P) (hn : ¬ (0 ≤ fnd cs t ∧ fnd cs t ∉ P)) : P.map (nmAt cs) = supersL cs s ∧ (chR cs (fnd cs s)).2 = decide (0 ≤ fnd cs t) := by
  unfold supersL
  rw [h.all, chGo_stop hn]
  exact ⟨rfl, rfl⟩
structure ChX (cs : List Cls) (s t : ByteArray) (P : List Int) (n : Nat) (hn : n < cs.length) : Prop where
  len : P.length < cs.length
  map : (P ++ [(n : Int)]).map (nmAt cs) = P.map (nmAt cs) ++ [t]
  last : cs[n].super.toList.isEmpty = true → P.map (nmAt cs) ++ [t] = supersL cs s ∧ (chR cs (fnd cs s)).2 = false
  more : cs[n].super.toList.isEmpty = false → ChS cs s cs[n].super (P ++ [(n : Int)])
theorem ChS.next {cs : List Cls} {s t : ByteArray} {P : List Int} (h : ChS cs s t P) {n : Nat} (hn : n < cs.length) (he : fnd cs t = n) (hm : (n : Int) ∉ P) : ChX cs s t P n hn := by
  have hname : nmAt cs (n : Int) = t := by
    have := nm_fndG (cs := cs) (s := t) (by omega)
    rw [he] at this; exact this
  have hbd : ∀ j ∈ P ++ [(n : Int)], 0 ≤ j ∧ j < (cs.length : Int) := fun j hj => by
    rcases List.mem_append.1 hj with hj | hj
    · exact h.bd j hj
    · simp at hj; subst hj; omega
  have hnd : (P ++ [(n : Int)]).Nodup := by
    rw [List.nodup_append]
    refine ⟨h.nd, by simp, fun a ha b hb => ?_⟩
    simp at hb; subst hb
    intro e; subst e; exact hm ha
  have hlen := nodup_le hnd hbd
  rw [List.length_append, List.length_cons, List.length_nil] at hlen
  have hmap : (P ++ [(n : Int)]).map (nmAt cs) = P.map (nmAt cs) ++ [t] := by rw [List.map_append, List.map_cons, hname]; rfl
  have hall : chR cs (fnd cs s) = chGo (supI cs) (cs.length - (P ++ [(n : Int)]).length) (supI cs n) (P ++ [(n : Int)]) := by
    rw [h.all, he, List.length_append, List.length_cons, List.length_nil]
    obtain ⟨f, hf⟩ : ∃ f, cs.length - P.length = f + 1 := ⟨cs.length - P.length - 1, by omega⟩
    rw [hf, chGo_step ⟨by omega, hm⟩, Int.toNat_natCast, show cs.length - (P.length + (0 + 1)) = f by omega]
  refine ⟨by omega, hmap, fun hq => ?_, fun hq => ?_⟩
  · rw [supI_at hn, if_pos hq, chGo_stop (by omega)] at hall
    unfold supersL
    rw [hall, ← hmap]
    exact ⟨rfl, rfl⟩
  · rw [supI_at hn, if_neg (by rw [hq]; simp)] at hall
    refine ⟨hall, fun j hj => ?_, hbd, hnd⟩
    rcases List.mem_append.1 hj with hj | hj
    · exact h.fix j hj
    · simp at hj; subst hj; rw [hname]; exact he

set_option maxRecDepth 100000 in
set_option maxHeartbeats 2000000 in
theorem refChain_g (A : Option Addr) (c : Nat) (cs : List Cls) (s : ByteArray) (w : World) (hl : cs.length ≤ 8796093022208) (hsl : Sl Lay.cls w A cs) :
    Calls Tryz.prog 168 #[.agg #[.slice A cs.length c], .string s] w fun e w' => (∃ v, e = .returned (.tuple #[v, .bool (chR cs (fnd cs s)).2]) ∧ Own cellsStr 1 w.heap.size 9 w' v (supersL cs s)) ∧ Below w.heap.size w w' := by
  have hb0 : Below w.heap.size w (w.alloc (.cells #[.slice A cs.length c] 42)) := (by repeat (first | assumption | exact Below.refl _ _ | apply bw_alloc | apply bw_drew | apply bw_drewN | apply bw_later | apply bw_step))
  have bx := Box.new w [.slice A cs.length c] 42
  have HST := Lib.hid (ChS.start cs s)
  obtain ⟨cy, HCY⟩ : ∃ cy, Hid (cy = (chR cs (fnd cs s)).2) := ⟨_, Lib.hid rfl⟩
  rw [← HCY.out]
  go_enter Tryz.func168, Tryz.ntmps168
  go_wp2_with fail
  refine (refFind_g A c cs s _ hl (hsl.mono hb0)).mono ?_
  rintro e w1 ⟨rfl, hb1⟩
  have hbw1 := below_step hb0 hb1
  have bx1 := bx.mono hb1
  clear hb0 hb1 bx
  go_wp2_with fail
  go_loopw [1, 6, 7] (fun v1 v6 v7 wr => ∃ (t : ByteArray) (P : List Int), v1 = .string t ∧ v7 = .int .i64 (fnd cs t) ∧ Hid (ChS cs s t P) ∧ P.length ≤ cs.length ∧ Own cellsStr 1 (w.heap.size + 1) 9 wr v6 (P.map (nmAt cs)) ∧ Box wr w.heap.size [.slice A cs.length c] 42 ∧ Below w.heap.size w wr) (fun v1 v6 v7 _ => cs.length - slLen v6)
  case atStart => exact ⟨s, [], rfl, rfl, HST, Nat.zero_le _, Own.nil, bx1, hbw1⟩
  case round =>
    clear HST bx1 hbw1
    obtain ⟨t, P, rfl, rfl, HS, hPl, hown, bx, hbw⟩ := hrel
    have hfb := fnd_bd cs t
    have x0 := bx.cell 0 rfl
    have xl := bx.lt
    by_cases h0 : 0 ≤ fnd cs t
    · obtain ⟨n, hn⟩ : ∃ n : Nat, fnd cs t = n := ⟨(fnd cs t).toNat, by omega⟩
      have hnl : n < cs.length := by omega
      have HMEM := Lib.hid (HS.out.mem h0)
      have hpm0 : (P.map (nmAt cs)).length ≤ cs.length := by rw [List.length_map]; exact hPl
      cases hin : hasS (P.map (nmAt cs)) t with
      | true =>
        have HE := Lib.hid (HS.out.stop (fun h => h.2 (HMEM.out.1 hin)))
        have HB : Hid (cy = true) := by show _ = _; rw [HCY.out, HE.out.2, decide_eq_true h0]
        rw [hn] at h0 hfb ⊢
        have HIN := Lib.hid hin
        clear hn hin
        generalize P.map (nmAt cs) = N at *
        obtain ⟨A6, c6, rfl, hc6, hs6⟩ := StrsV.of_own hown
        go_wp2_with fail
        refine (refIn_g A6 c6 N t _ (by omega) hs6).mono ?_
        rintro e w2 ⟨rfl, rfl⟩
        rw [HIN.out]
        go_wp2_with fail
        go_ret2
        exact ⟨⟨_, by rw [HB.out]; rfl, by rw [← HE.out.1]; exact hown.weaken (by omega)⟩, hbw⟩
      | false =>
        have HN := Lib.hid (HS.out.next hnl hn (fun h => by rw [← hn] at h; rw [HMEM.out.2 h] at hin; cases hin))
        rw [hn] at h0 hfb ⊢
        have HNEW := Lib.hid hin
        clear hn hin HMEM
        have hlen := HN.out.len
        have hpm : (P.map (nmAt cs)).length < cs.length := by rw [List.length_map]; exact hlen
        have HMAP := Lib.hid HN.out.map
        have HLAST := Lib.hid HN.out.last
        have HMORE := Lib.hid HN.out.more
        clear HN HS
        generalize P.map (nmAt cs) = N at *
        have HSL := Lib.hid hown.slLen
        obtain ⟨A6, c6, rfl, hc6, hs6⟩ := StrsV.of_own hown
        go_wp2_with fail
        refine (refIn_g A6 c6 N t _ (by omega) hs6).mono ?_
        rintro e w2 ⟨rfl, rfl⟩
        rw [HNEW.out]
        go_wp2_with (at_builtin; refine wpList_pushG strsTy cellsStr_ok rfl (.tmp 20) (.tmp 22) rfl (w.heap.size + 1) _ _ rfl (Own.alloc hown _) t _ _ rfl (cells_one_new _ _ _) (by unfold maxLen; omega) (by omega) ?_ ?_; (simp; omega); intro v3 w3 hown3 hb3 hg3; have bx3 := (bx.alloc (.cells #[.string t] 9)).below (by omega) hb3; have y0 := bx3.cell 0 rfl; have yl := bx3.lt; have hbw3 := (bw_alloc hbw).trans (hb3.mono (by omega)); obtain ⟨b0, o, A2, c2, A3, c3, rfl, hb, d0, d1, d2, d3, hc2, hs2, hc3, hs3⟩ := (hsl.mono hbw3).cls_at hnl; cases hq : cs[n].super.toList.isEmpty)
        · have HQ := Lib.hid (HMORE.out hq)
          have HSL3 := Lib.hid hown3.slLen
          go_wp2_with fail
          refine (refFind_g _ c cs cs[n].super _ hl (hsl.mono hbw3)).mono ?_
          rintro e w4 ⟨rfl, hb4⟩
          go_wp2_with fail
          go_roundw
          case rel => exact ⟨_, P ++ [(n : Int)], rfl, rfl, HQ, by rw [List.length_append]; simp; omega, by rw [HMAP.out]; exact hown3.mono hb4, bx3.mono hb4, below_step hbw3 hb4⟩
          case measure => rw [HSL.out, HSL3.out, List.length_append]; simp; omega
        · have HE := Lib.hid (HLAST.out hq)
          have HB : Hid (cy = false) := by show _ = _; rw [HCY.out, HE.out.2]
          go_wp2_with fail
          go_ret2
          exact ⟨⟨_, by rw [HB.out]; rfl, by rw [← HE.out.1]; exact hown3.weaken (by omega)⟩, hbw3⟩
    · have HE := Lib.hid (HS.out.stop (fun h => h0 h.1))
      have HB : Hid (cy = false) := by show _ = _; rw [HCY.out, HE.out.2, decide_eq_false h0]
      go_wp2_with fail
      go_ret2
      exact ⟨⟨_, by rw [HB.out]; rfl, by rw [← HE.out.1]; exact hown.weaken (by omega)⟩, hbw⟩
theorem refSupers_g (A : Option Addr) (c : Nat) (cs : List Cls) (s : ByteArray) (w : World) (hl : cs.length ≤ 8796093022208) (hsl : Sl Lay.cls w A cs) :
    Calls Tryz.prog 120 #[.agg #[.slice A cs.length c], .string s] w fun e w' => (∃ v, e = .returned v ∧ Own cellsStr 1 w.heap.size 9 w' v (supersL cs s)) ∧ Below w.heap.size w w' := by
  have hb0 : Below w.heap.size w (w.alloc (.cells #[.slice A cs.length c] 42)) := (by repeat (first | assumption | exact Below.refl _ _ | apply bw_alloc | apply bw_drew | apply bw_drewN | apply bw_later | apply bw_step))
  go_enter Tryz.func120, Tryz.ntmps120
  go_wp2_with fail
  refine (refChain_g A c cs s _ hl (hsl.mono hb0)).mono ?_
  rintro e w1 ⟨⟨v, rfl, hown⟩, hb1⟩
  go_wp2_with fail
  go_ret
  exact ⟨⟨_, rfl, hown.weaken hb0.size⟩, below_step hb0 hb1⟩
end Go.Proofs.YthabojhnliomnaaGreatDoor
