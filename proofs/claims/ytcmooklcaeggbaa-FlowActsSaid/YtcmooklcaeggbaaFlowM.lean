/-
  Chapter 29: Apply of the reference and of the program.
-/
import Derived.Test.YtcmooklcaeggbaaFlowL
import Derived.Test.YtcmooklcaeggbaaMap
namespace Go.Proofs.Ytcmooklcaeggbaa
open Go.RowKit
set_option linter.unusedVariables false

theorem int2_same {w : World} {b o : Nat} {l : List (Int × Int)} (h : Sl Lay.int2 w (some ⟨b, o, none⟩) l) {i : Nat} (hi : i < l.length) : w.cell? ⟨b, o + i * 2, none⟩ = some (.int .i64 l[i].1) ∧ w.cell? ⟨b, o + i * 2 + 1, none⟩ = some (.int .i64 l[i].2) := by
  obtain ⟨b', o', e, _, hc⟩ := h.int2_at hi
  simp only [Option.some.injEq, Addr.mk.injEq] at e
  obtain ⟨rfl, rfl, _⟩ := e
  exact hc

set_option maxHeartbeats 1000000 in
theorem refApply_any (A B : Option Addr) (cA cB : Nat) (f : List (Int × Int)) (facts : List Int) (w : World) (hlf : f.length ≤ 10000) (hll : facts.length ≤ 9223372036854775807) (hf : Sl Lay.int2 w A f) (hs : Sl Lay.int w B facts) :
    Calls Try.prog 20 #[.slice A f.length cA, .slice B facts.length cB] w fun e w' => (∃ v, e = .returned v ∧ IntsV w' v (refOut facts f)) ∧ Below w.heap.size w w' := by
  go_enter Try.func20, Try.ntmps20
  go_wp2
  go_loopw [5, 6] (fun v i wr => ∃ k : Nat, k ≤ f.length ∧ i = .int .i64 k ∧ IntsV wr v (refOut facts (f.take k)) ∧ Below w.heap.size w wr) (fun _ i _ => f.length - (intOf i).toNat)
  case atStart => exact ⟨0, Nat.zero_le _, rfl, IntsV.nil, Below.refl _ _⟩
  case round =>
    obtain ⟨k, hk, rfl, hv, hbw⟩ := hrel
    obtain ⟨A1, c1, rfl, hc1, hs1⟩ := hv
    have hrl := refOut_len facts f k
    by_cases hlt : k < f.length
    · obtain ⟨b, o, rfl, hb, d0, d1⟩ := (hf.mono hbw).int2_at hlt
      have HS := Lib.hid (refOut_snoc facts (f.take k) f[k])
      rw [← List.take_succ_eq_append_getElem hlt] at HS
      by_cases hz : f[k].2 = 0
      · have hz' : (f[k].2 != 0) = false := by simp [hz]
        have HA : Hid (applies facts f[k] = false) := by show _ = _; unfold applies; rw [hz']; rfl
        clear hz
        go_wp2_with fail
        go_roundw
        case rel => exact ⟨k + 1, by omega, by go_num, by rw [HS.out, HA.out]; exact ⟨A1, c1, rfl, hc1, hs1⟩, hbw⟩
        case measure => simp [intOf]; omega
      · have hz' : (f[k].2 != 0) = true := by simpa using hz
        clear hz
        by_cases h1 : f[k].1 = 0
        · have h1' : (f[k].1 == 0) = true := by simp [h1]
          have HA : Hid (applies facts f[k] = true) := by show _ = _; unfold applies; rw [hz', h1']; rfl
          clear h1
          go_wp2_with fail
          refine (refWithFact_any A1 c1 (refOut facts (f.take k)) f[k].2 _ (by omega) hc1 hs1).mono ?_
          rintro e w1 ⟨⟨v1, rfl, hv1⟩, hb1⟩
          go_wp2_with fail
          go_roundw
          case rel => exact ⟨k + 1, by omega, by go_num, by rw [HS.out, HA.out]; exact hv1, below_step hbw hb1⟩
          case measure => simp [intOf]; omega
        · have h1' : (f[k].1 == 0) = false := by simpa using h1
          clear h1
          cases hh : hasB facts f[k].1 with
          | true =>
            have HA : Hid (applies facts f[k] = true) := by show _ = _; unfold applies; rw [hz', h1', hh]; rfl
            have HH := Lib.hid hh
            clear hh
            go_wp2_with fail
            refine (refHas_any B cB facts f[k].1 _ hll (hs.mono hbw)).mono ?_
            rintro e w1 ⟨rfl, rfl⟩
            rw [HH.out]
            go_wp2_with fail
            refine (refWithFact_any A1 c1 (refOut facts (f.take k)) f[k].2 _ (by omega) hc1 hs1).mono ?_
            rintro e w1 ⟨⟨v1, rfl, hv1⟩, hb1⟩
            go_wp2_with fail
            go_roundw
            case rel => exact ⟨k + 1, by omega, by go_num, by rw [HS.out, HA.out]; exact hv1, below_step hbw hb1⟩
            case measure => simp [intOf]; omega
          | false =>
            have HA : Hid (applies facts f[k] = false) := by show _ = _; unfold applies; rw [hz', h1', hh]; rfl
            have HH := Lib.hid hh
            clear hh
            go_wp2_with fail
            refine (refHas_any B cB facts f[k].1 _ hll (hs.mono hbw)).mono ?_
            rintro e w1 ⟨rfl, rfl⟩
            rw [HH.out]
            go_wp2_with fail
            go_roundw
            case rel => exact ⟨k + 1, by omega, by go_num, by rw [HS.out, HA.out]; exact ⟨A1, c1, rfl, hc1, hs1⟩, hbw⟩
            case measure => simp [intOf]; omega
    · have HK := Lib.hid (show f.take k = f from List.take_of_length_le (by omega))
      go_wp2_with fail
      go_ret
      exact ⟨⟨_, rfl, ⟨A1, c1, by rw [HK.out]; rfl, by rw [← HK.out]; exact hc1, by rw [← HK.out]; exact hs1⟩⟩, hbw⟩

/-! ### Apply of the program -/
theorem boolMapTy : MapTy Try.prog 53 3 4 (fun x : Int => .int .i64 x) okInt (fun x => .int .i64 x) (fun y : Bool => .bool y) (fun _ => True) (fun y => .lit (.bool y)) false :=
  MapTy.int_bool Try.underlying53 Try.underlying3 Try.underlying4 (fun w => by kernel_rfl)
theorem run_makeMap_hint {P : Program} (t k e : TypeId) (ht : P.underlying t = some (.map k e)) (kd : IntKind) (n : Int) (w : World) :
    (Instr.makeMap t (some (.int kd n))).run P w = .ok (.map (some w.heap.size)) (w.alloc (.map #[] 0)) := by
  simp [Instr.makeMap, run_underlying ht]; rfl
/-- The facts before, as a map. -/
def before_ (l : List Int) : Int → Option Bool := l.foldl (fun f x => putF f x true) (putF (fun _ => none) 0 true)
theorem before_snoc (l : List Int) (x : Int) : before_ (l ++ [x]) = putF (before_ l) x true := by unfold before_; rw [List.foldl_append]; rfl
theorem hasB_snoc (l : List Int) (y x : Int) : hasB (l ++ [y]) x = (hasB l x || decide (x = y)) := by
  unfold hasB
  rw [← Bool.decide_or, decide_eq_decide]
  simp
theorem before_spec (l : List Int) (x : Int) : (before_ l x).getD false = (x == 0 || hasB l x) := by
  suffices ∀ k, (before_ (l.take k) x).getD false = (x == 0 || hasB (l.take k) x) by have := this l.length; rwa [List.take_length] at this
  intro k
  induction k with
  | zero =>
    simp only [List.take_zero, before_, List.foldl_nil, putF, hasB]
    by_cases h : x = 0 <;> simp [h]
  | succ k ih =>
    rcases Nat.lt_or_ge k l.length with hk | hk
    · rw [List.take_succ_eq_append_getElem hk, before_snoc]
      unfold putF
      by_cases h : x = l[k]
      · rw [if_pos h, hasB_snoc, decide_eq_true h]; simp
      · rw [if_neg h, ih, hasB_snoc, decide_eq_false h, Bool.or_false]
    · rw [List.take_of_length_le (by omega)]; rwa [List.take_of_length_le (by omega)] at ih
def outOf (facts : List Int) (f : List (Int × Int)) : List Int := (f.filter (applies facts)).map (·.2)
theorem outOf_yes {facts : List Int} {f : List (Int × Int)} {p : Int × Int} (h : applies facts p = true) : outOf facts (f ++ [p]) = outOf facts f ++ [p.2] := by unfold outOf; rw [List.filter_append]; simp [h]
theorem outOf_no {facts : List Int} {f : List (Int × Int)} {p : Int × Int} (h : applies facts p = false) : outOf facts (f ++ [p]) = outOf facts f := by unfold outOf; rw [List.filter_append]; simp [h]
theorem outOf_len (facts : List Int) (f : List (Int × Int)) : (outOf facts f).length ≤ f.length := by unfold outOf; rw [List.length_map]; exact List.length_filter_le _ _

theorem cells_one_at (w : World) (u : Value) (t : TypeId) (H : Nat) (hH : w.heap.size = H) : ∀ j v, [u][j]? = some v → (w.alloc (.cells #[u] t)).cell? ⟨H, j, none⟩ = some v := by
  subst hH; exact cells_one_new w u t

set_option maxHeartbeats 1000000 in
theorem flowApply_own (A B : Option Addr) (cA cB : Nat) (f : List (Int × Int)) (facts : List Int) (w : World) (hlf : f.length ≤ 10000) (hll : facts.length ≤ 10000) (hf : Sl Lay.int2 w A f) (hs : Sl Lay.int w B facts)
    (hof : Hid (∀ x ∈ f, okInt x.1)) (hol : Hid (∀ x ∈ facts, okInt x)) :
    Calls Try.prog 19 #[.slice A f.length cA, .slice B facts.length cB] w fun e w' => (∃ v, e = .returned v ∧ Own cellsInt 1 (w.heap.size + 1) 3 w' v (ascI (outOf facts f))) ∧ Below w.heap.size w w' := by
  have hmk := run_makeMap_hint (P := Try.prog) 53 3 4 Try.underlying53
  have hm0 := MapIs.made boolMapTy w
  go_enter Try.func19, Try.ntmps19
  go_wp2_with (at_mapUpdate; refine wpList_mapSet boolMapTy rfl (.tmp 15) _ _ rfl w.heap.size 0 _ rfl hm0 (by simp [maxLen]) 0 true rfl rfl (okInt_of (by omega) (by omega)) trivial ?_; intro w1 hm1 hg1)
  clear hm0 hmk
  have hbw1 : Below w.heap.size w w1 := (bw_alloc (Below.refl _ _)).grown hg1 (by simp) (fun k hk => by injection hk with hk; omega)
  go_loopw [18] (fun i wr => ∃ k : Nat, k ≤ facts.length ∧ i = .int .i64 k ∧ MapIs boolMapTy wr w.heap.size (k + 1) (before_ (facts.take k)) ∧ Below w.heap.size w wr) (fun i _ => facts.length - (intOf i).toNat)
  case atStart => exact ⟨0, Nat.zero_le _, rfl, hm1, hbw1⟩
  case round =>
    obtain ⟨k, hk, rfl, hm, hbw⟩ := hrel
    by_cases hlt : k < facts.length
    · obtain ⟨b, o, rfl, hb, d0⟩ := (hs.mono hbw).int_at hlt
      have HS := Lib.hid (before_snoc (facts.take k) facts[k])
      rw [← List.take_succ_eq_append_getElem hlt] at HS
      go_wp2_with (at_mapUpdate; refine wpList_mapSet boolMapTy rfl (.tmp 22) (.tmp 23) _ rfl w.heap.size (k + 1) _ rfl hm (by unfold maxLen; omega) facts[k] true rfl rfl (hol.out _ (List.getElem_mem hlt)) trivial ?_; intro w2 hm2 hg2)
      go_roundw
      case rel => exact ⟨k + 1, by omega, by go_num, by rw [HS.out]; exact hm2, hbw.grown hg2 hbw.size (fun k hk => by injection hk with hk; omega)⟩
      case measure => simp [intOf]; omega
    · have HK := Lib.hid (show facts.take k = facts from List.take_of_length_le (by omega))
      rw [HK.out] at hm
      clear hm1 hg1 hbw1
      go_wp2_with fail
      obtain ⟨wo, rfl⟩ : ∃ wo : World, wo = wr := ⟨_, rfl⟩
      go_loopw [8, 27] (fun v i wr => ∃ j : Nat, j ≤ f.length ∧ i = .int .i64 j ∧ MapIs boolMapTy wr w.heap.size (k + 1) (before_ facts) ∧ Own cellsInt 1 (w.heap.size + 1) 3 wr v (outOf facts (f.take j)) ∧ Below w.heap.size w wr) (fun _ i _ => f.length - (intOf i).toNat)
      case atStart => exact ⟨0, Nat.zero_le _, rfl, hm, Own.nil, hbw⟩
      case round =>
        obtain ⟨j, hj, rfl, hmj, hown, hbwj⟩ := hrel
        have hsz : w.heap.size + 1 ≤ wr.heap.size := hmj.lt
        have hol2 := outOf_len facts (f.take j)
        rw [List.length_take] at hol2
        by_cases hlt2 : j < f.length
        · obtain ⟨b, o, rfl, hb, d0, d1⟩ := (hf.mono hbwj).int2_at hlt2
          have hlk := fun o => (hmj.alloc o).look (x := f[j].1) (hof.out _ (List.getElem_mem hlt2))
          rw [before_spec] at hlk
          by_cases hz : f[j].2 = 0
          · have hz' : (f[j].2 != 0) = false := by simp [hz]
            have HA : Hid (applies facts f[j] = false) := by show _ = _; unfold applies; rw [hz']; rfl
            have HS := Lib.hid (outOf_no (f := f.take j) HA.out)
            rw [← List.take_succ_eq_append_getElem hlt2] at HS
            clear hz hlk
            go_wp2_with fail
            go_roundw
            case rel => exact ⟨j + 1, by omega, by go_num, hmj.alloc _, by rw [HS.out]; exact hown.alloc _, bw_alloc hbwj⟩
            case measure => simp [intOf]; omega
          · have hz' : (f[j].2 != 0) = true := by simpa using hz
            clear hz
            cases hh : (f[j].1 == 0 || hasB facts f[j].1) with
            | true =>
              have HA : Hid (applies facts f[j] = true) := by show _ = _; unfold applies; rw [hz', hh]; rfl
              have HS := Lib.hid (outOf_yes (f := f.take j) HA.out)
              rw [← List.take_succ_eq_append_getElem hlt2] at HS
              rw [hh] at hlk
              clear hh
              go_wp2_with (at_builtin; refine wpList_push intTy cellsInt_ok rfl (.tmp 40) (.tmp 43) rfl (w.heap.size + 1) _ (outOf facts (f.take j)) rfl ((hown.alloc _).alloc _) f[j].2 (wr.heap.size + 1) _ rfl (cells_one_at _ _ _ _ (by simp)) (by unfold maxLen; omega) (by omega) (by simp; omega) ?_; intro v1 w1 hown1 hb1)
              go_roundw
              case rel => exact ⟨j + 1, by omega, by go_num, ((hmj.alloc _).alloc _).below (by omega) hb1, by rw [HS.out]; exact hown1, (bw_alloc (bw_alloc hbwj)).trans (hb1.mono (by omega))⟩
              case measure => simp [intOf]; omega
            | false =>
              have HA : Hid (applies facts f[j] = false) := by show _ = _; unfold applies; rw [hz', hh]; rfl
              have HS := Lib.hid (outOf_no (f := f.take j) HA.out)
              rw [← List.take_succ_eq_append_getElem hlt2] at HS
              rw [hh] at hlk
              clear hh
              go_wp2_with fail
              go_roundw
              case rel => exact ⟨j + 1, by omega, by go_num, hmj.alloc _, by rw [HS.out]; exact hown.alloc _, bw_alloc hbwj⟩
              case measure => simp [intOf]; omega
        · have HK2 := Lib.hid (show f.take j = f from List.take_of_length_le (by omega))
          rw [HK2.out] at hown hol2
          go_wp2_with fail
          refine (sortInts_own _ (outOf facts f) _ _ hown (by omega)).mono ?_
          rintro e w3 ⟨rfl, hown3, hb3⟩
          go_wp2_with fail
          refine (compactInts_own _ (sortI (outOf facts f)) _ _ hown3 (by rw [sortI_len]; omega)).mono ?_
          rintro e w4 ⟨⟨v4, rfl, hown4⟩, hb4⟩
          go_wp2_with fail
          go_ret
          exact ⟨⟨_, rfl, hown4⟩, (hbwj.trans (hb3.mono (by omega))).trans (hb4.mono (by omega))⟩
theorem flowApply_any (A B : Option Addr) (cA cB : Nat) (f : List (Int × Int)) (facts : List Int) (w : World) (hlf : f.length ≤ 10000) (hll : facts.length ≤ 10000) (hf : Sl Lay.int2 w A f) (hs : Sl Lay.int w B facts)
    (hof : Hid (∀ x ∈ f, okInt x.1)) (hol : Hid (∀ x ∈ facts, okInt x)) :
    Calls Try.prog 19 #[.slice A f.length cA, .slice B facts.length cB] w fun e w' => (∃ v, e = .returned v ∧ IntsV w' v (ascI (outOf facts f))) ∧ Below w.heap.size w w' :=
  (flowApply_own A B cA cB f facts w hlf hll hf hs hof hol).mono fun e w' ⟨⟨v, he, hv⟩, hb⟩ => ⟨⟨v, he, IntsV.of_own hv⟩, hb⟩
end Go.Proofs.Ytcmooklcaeggbaa
