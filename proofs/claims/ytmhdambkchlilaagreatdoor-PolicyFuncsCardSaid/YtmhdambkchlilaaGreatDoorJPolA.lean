/-
  Chapter 42: the tags of a policy.
-/
import Derived.Test.YtmhdambkchlilaaGreatDoorJGb
import Derived.Test.YtmhdambkchlilaaGreatDoorJGt
import Derived.Test.YtmhdambkchlilaaGreatDoorJGa
namespace Go.Proofs.YtmhdambkchlilaaGreatDoor
open Go.RowKit
set_option linter.unusedVariables false

theorem Own.isSl {α : Type} {cells : α → List Value} {size base : Nat} {e : TypeId} {w : World} {v : Value} {l : List α} (h : Own cells size base e w v l) : ∃ A n c, v = .slice A n c := by
  rcases h.2 with ⟨rfl, _⟩ | ⟨g, cap, cur, rfl, _⟩
  · exact ⟨_, _, _, rfl⟩
  · exact ⟨_, _, _, rfl⟩
theorem Own.base_le' {α : Type} {cells : α → List Value} {size base base' : Nat} {e : TypeId} {w : World} {v : Value} {l : List α} (h : Own cells size base e w v l) (hb : base' ≤ base) : Own cells size base' e w v l := by
  refine ⟨h.1, ?_⟩
  rcases h.2 with h1 | ⟨g, cap, cur, h1, h2, h3⟩
  · exact Or.inl h1
  · exact Or.inr ⟨g, cap, cur, h1, Nat.le_trans hb h2, h3⟩
/-- The tags of the sources. -/
def srcT (l : List Rul) : List ByteArray := (l.filter fun r => decide (r.kind = 1)).map (·.tag)
theorem srcT_yes {l : List Rul} {k : Nat} (h : k < l.length) (hk : l[k].kind = 1) : srcT (l.take (k + 1)) = srcT (l.take k) ++ [l[k].tag] := by
  unfold srcT
  rw [List.take_succ_eq_append_getElem h, List.filter_append, List.map_append]
  simp [hk]
theorem srcT_no {l : List Rul} {k : Nat} (h : k < l.length) (hk : ¬ l[k].kind = 1) : srcT (l.take (k + 1)) = srcT (l.take k) := by
  unfold srcT
  rw [List.take_succ_eq_append_getElem h, List.filter_append, List.map_append]
  simp [hk]
theorem srcT_len (l : List Rul) (k : Nat) : (srcT (l.take k)).length ≤ k := by
  unfold srcT
  rw [List.length_map]
  refine Nat.le_trans (List.length_filter_le _ _) ?_
  rw [List.length_take]
  omega
def RetStrs (w w' : World) (l : List ByteArray) (e : Ending) : Prop := ∃ v, e = .returned v ∧ Own cellsStr 1 w.heap.size 9 w' v l

set_option maxRecDepth 100000 in
set_option maxHeartbeats 2000000 in
theorem tags_any (A A2 : Option Addr) (c n2 c2 : Nat) (l : List Rul) (w : World) (hl : l.length ≤ 1400000000000) (hs : Sl Lay.rul w A l) :
    Calls Tryz.prog 70 #[.agg #[.slice A l.length c, .slice A2 n2 c2]] w fun e w' => RetStrs w w' (ascS (srcT l)) e ∧ Below w.heap.size w w' := by
  have hb0 : Below w.heap.size w (w.alloc (.cells #[.slice A l.length c, .slice A2 n2 c2] 140)) := (by repeat (first | assumption | exact Below.refl _ _ | apply bw_alloc | apply bw_drew | apply bw_drewN | apply bw_later | apply bw_step))
  obtain ⟨R, HR⟩ : ∃ R, Hid (R = ascS (srcT l)) := ⟨_, Lib.hid rfl⟩
  rw [← HR.out]
  go_enter Tryz.func70, Tryz.ntmps70
  go_wp2_with fail
  go_loopw [3, 9] (fun v i wr => ∃ k : Nat, k ≤ l.length ∧ i = .int .i64 k ∧ Own cellsStr 1 w.heap.size 9 wr v (srcT (l.take k)) ∧ Below w.heap.size w wr) (fun _ i _ => l.length - (intOf i).toNat)
  case atStart => exact ⟨0, Nat.zero_le _, rfl, Own.nil, hb0⟩
  case round =>
    obtain ⟨k, hk, rfl, ho, hbw⟩ := hrel
    obtain ⟨AT, nT, cT, rfl⟩ := ho.isSl
    have htl := srcT_len l k
    by_cases hlt : k < l.length
    · obtain ⟨b, o, A5, c5, rfl, hb, d0, d1, d2, d3, d4, d5, d6, d7, hc5, hs5⟩ := (hs.mono hbw).rul_at hlt
      by_cases hkd : l[k].kind = 1
      · have HS := Lib.hid (srcT_yes hlt hkd)
        rw [hkd] at d0
        clear hkd
        go_wp2_with (at_builtin; refine wpList_push strsTy cellsStr_ok rfl (.tmp 16) (.tmp 19) rfl w.heap.size _ (srcT (l.take k)) rfl ((ho.alloc _).alloc _) l[k].tag _ _ rfl (by rw [← show (World.alloc wr _).heap.size = wr.heap.size + 1 from by simp]; exact cells_one_new _ _ _) (by unfold maxLen; omega) (by omega) (by have := hbw.size; simp; omega) ?_; intro v1 w1 hown1 hb1; obtain ⟨A1, n1, q1, rfl⟩ := hown1.isSl)
        go_roundw
        case rel => exact ⟨k + 1, by omega, by go_num, by rw [HS.out]; exact hown1, (bw_alloc (bw_alloc hbw)).trans hb1⟩
        case measure => simp [intOf]; omega
      · have HS := Lib.hid (srcT_no hlt hkd)
        have e1 : (l[k].kind == 1) = false := by simpa using hkd
        clear hkd
        go_wp2_with fail
        go_roundw
        case rel => exact ⟨k + 1, by omega, by go_num, by rw [HS.out]; exact ho.alloc _, bw_alloc hbw⟩
        case measure => simp [intOf]; omega
    · obtain rfl : k = l.length := by omega
      rw [List.take_length] at ho htl
      go_wp2_with fail
      refine (sortStrings_own _ (srcT l) w.heap.size _ ho (by omega)).mono ?_
      rintro e w1 ⟨rfl, ho1, hb1⟩
      go_wp2_with fail
      refine (compactStrings_own _ (sortS (srcT l)) w.heap.size _ ho1 (by rw [sortS_len]; omega)).mono ?_
      rintro e w2 ⟨⟨v2, rfl, ho2⟩, hb2⟩
      go_wp2_with fail
      go_ret
      have hbw1 := hbw.grown hb1 hbw.size (fun k hk => (World.ownsRow.lt ho k hk).1)
      exact ⟨⟨_, rfl, by rw [HR.out]; exact ho2⟩, hbw1.grown hb2 hbw1.size (fun k hk => (World.ownsRow.lt ho1 k hk).1)⟩
theorem Sl.takeS {w : World} {A : Option Addr} {l : List ByteArray} (h : Sl Lay.str w A l) (k : Nat) : Sl Lay.str w A (l.take k) := fun i x hx => h i x (by
  rw [List.getElem?_take] at hx
  split at hx
  · exact hx
  · cases hx)
theorem Sl.dropS {w : World} {b o : Nat} {l : List ByteArray} (h : Sl Lay.str w (some ⟨b, o, none⟩) l) (k : Nat) : Sl Lay.str w (some ⟨b, o + k, none⟩) (l.drop k) := fun i x hx => by
  rw [List.getElem?_drop] at hx
  obtain ⟨b', o', vs, e, hlt, hr, hc⟩ := h (k + i) x hx
  injection e with e
  injection e with e1 e2
  subst e1 e2
  refine ⟨_, _, vs, rfl, hlt, hr, fun j v hj => ?_⟩
  have := hc j v hj
  rw [show Lay.str.size = 1 from rfl] at this ⊢
  rw [show o + k + i * 1 + j = o + (k + i) * 1 + j by omega]
  exact this
theorem below_undrewC {w W : World} (h : Below w.heap.size w W) : Below w.drew.heap.size w.drew W := ⟨h.os, h.tape, h.output, h.size, h.block⟩
theorem ltS_lt {a b : ByteArray} : (toL a < toL b) ↔ a.toList < b.toList := by unfold toL; rw [ByteArray.toList_eq, ByteArray.toList_eq]

end Go.Proofs.YtmhdambkchlilaaGreatDoor
