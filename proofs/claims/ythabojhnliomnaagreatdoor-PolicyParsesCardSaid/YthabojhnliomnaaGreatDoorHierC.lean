/-
  Chapter 10: the methods find, super, chain, named of a table.
-/
import Derived.Test.YthabojhnliomnaaGreatDoorHierB
namespace Go.Proofs.YthabojhnliomnaaGreatDoor
open Go.RowKit
set_option linter.unusedVariables false

/-- The index of the first class of this name, or -1. -/
def fnd (cs : List Cls) (s : ByteArray) : Int := idxI (isCls s) cs
theorem fnd_first (cs : List Cls) (s : ByteArray) : fnd cs s = (firstF cs s).getD (-1) := by
  unfold fnd idxI firstF
  cases cs.findIdx? (isCls s) with
  | none => rfl
  | some i => rfl
theorem fnd_yes {cs : List Cls} {s : ByteArray} (h : (firstF cs s).isSome = true) : (firstF cs s).getD 0 = fnd cs s := by
  rw [fnd_first]
  cases h2 : firstF cs s with
  | none => rw [h2] at h; cases h
  | some y => rfl
theorem fnd_no {cs : List Cls} {s : ByteArray} (h : (firstF cs s).isSome = false) : fnd cs s = -1 := by
  rw [fnd_first]
  cases h2 : firstF cs s with
  | none => rfl
  | some y => rw [h2] at h; cases h
theorem fnd_bd (cs : List Cls) (s : ByteArray) : -1 ≤ fnd cs s ∧ fnd cs s < cs.length := idxI_ge _ _

theorem tFind_any (A : Option Addr) (c b : Nat) (cs : List Cls) (s : ByteArray) (w : World) (hT : TabV w A c b cs) (hs : okStr s) :
    Calls Tryz.prog 106 #[.agg #[.slice A cs.length c, .map (some b)], .string s] w fun e w' => e = .returned (.int .i64 (fnd cs s)) ∧ Below w.heap.size w w' := by
  obtain ⟨n, hm⟩ := hT.map
  have hlk := fun o => (hm.alloc o).look_ok hs
  cases hq : (firstF cs s).isSome with
  | true =>
    have HF := Lib.hid (fnd_yes hq)
    rw [hq, HF.out] at hlk
    clear hq
    go_enter Tryz.func106, Tryz.ntmps106
    go_wp2_with fail
    go_ret
    exact ⟨rfl, (by repeat (first | assumption | exact Below.refl _ _ | apply bw_alloc | apply bw_drew | apply bw_drewN | apply bw_later | apply bw_step))⟩
  | false =>
    have HF := Lib.hid (fnd_no hq)
    rw [hq] at hlk
    clear hq
    go_enter Tryz.func106, Tryz.ntmps106
    go_wp2_with fail
    go_ret
    exact ⟨by rw [HF.out]; rfl, (by repeat (first | assumption | exact Below.refl _ _ | apply bw_alloc | apply bw_drew | apply bw_drewN | apply bw_later | apply bw_step))⟩

/-- The index of the superclass of class i, or -1. -/
def supI (cs : List Cls) (i : Nat) : Int := match cs[i]? with
  | some x => if x.super.toList.isEmpty then -1 else fnd cs x.super
  | none => -1
theorem supI_at {cs : List Cls} {i : Nat} (hi : i < cs.length) : supI cs i = if cs[i].super.toList.isEmpty then -1 else fnd cs cs[i].super := by
  unfold supI; rw [List.getElem?_eq_getElem hi]
theorem supI_bd (cs : List Cls) (i : Nat) : -1 ≤ supI cs i ∧ supI cs i < cs.length := by
  unfold supI
  split
  · split
    · omega
    · exact fnd_bd _ _
  · omega

set_option maxHeartbeats 1000000 in
theorem tSuper_any (A : Option Addr) (c b : Nat) (cs : List Cls) (i : Nat) (w : World) (hl : cs.length ≤ 9223372036854775807) (hi : i < cs.length) (hT : TabV w A c b cs) (hok : Hid (NamesOk cs)) :
    Calls Tryz.prog 154 #[.agg #[.slice A cs.length c, .map (some b)], .int .i64 i] w fun e w' => e = .returned (.int .i64 (supI cs i)) ∧ Below w.heap.size w w' := by
  obtain ⟨b0, o, A2, c2, A3, c3, rfl, hb, d0, d1, d2, d3, hc2, hs2, hc3, hs3⟩ := hT.sl.cls_at hi
  have HS := Lib.hid (supI_at hi)
  cases hq : cs[i].super.toList.isEmpty with
  | true =>
    rw [hq] at HS
    go_enter Tryz.func154, Tryz.ntmps154
    go_wp2_with fail
    go_ret
    exact ⟨by rw [HS.out]; rfl, (by repeat (first | assumption | exact Below.refl _ _ | apply bw_alloc | apply bw_drew | apply bw_drewN | apply bw_later | apply bw_step))⟩
  | false =>
    rw [hq] at HS
    go_enter Tryz.func154, Tryz.ntmps154
    go_wp2_with fail
    refine wp_region_RW 8 (by kernel_rfl) (by kernel_rfl) ?_
    refine RW.chunk (f := 1) [0, 1, 2, 3, 4, 5, 6] (by kernel_rfl) ?_
    ((simp only [pickOps, List.filterMap, List.getElem?_toArray, List.getElem?_cons_zero, List.getElem?_cons_succ]); (repeat (go_big_quiet_step (fail))); refine wpQuiet_nil ?_)
    refine RW.single 7 rfl (by kernel_rfl) (by omega) ?_
    intro K hK
    go_wp2_with fail
    refine (tFind_any _ c b cs cs[i].super _ (hT.mono (by repeat (first | assumption | exact Below.refl _ _ | apply bw_alloc | apply bw_drew | apply bw_drewN | apply bw_later | apply bw_step))) (hok.out _ (List.getElem_mem hi)).2).mono ?_
    rintro e w1 ⟨rfl, hb1⟩
    go_wp2_with fail
    refine hK _ _ hb1 ?_
    clear hK
    (refine RW.tail (by kernel_rfl) ?_; (simp only [List.drop_succ_cons, List.drop_zero]))
    go_wp2_with fail
    go_ret
    exact ⟨by rw [HS.out]; rfl, below_step (by repeat (first | assumption | exact Below.refl _ _ | apply bw_alloc | apply bw_drew | apply bw_drewN | apply bw_later | apply bw_step)) hb1⟩
end Go.Proofs.YthabojhnliomnaaGreatDoor
