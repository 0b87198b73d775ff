/-
  Chapter 10: Lookup.
-/
import Derived.Test.YthabojhnliomnaaGreatDoorHierF
namespace Go.Proofs.YthabojhnliomnaaGreatDoor
open Go.RowKit
set_option linter.unusedVariables false

theorem cloneStrs_any (A : Option Addr) (c : Nat) (l : List ByteArray) (w : World) (hl : l.length ≤ 8796093022208) (hs : Sl Lay.str w A l) :
    Calls Tryz.prog 107 #[.slice A l.length c] w fun e w' => (∃ v, e = .returned v ∧ Own cellsStr 1 w.heap.size 9 w' v l) ∧ Below w.heap.size w w' := by
  cases A with
  | none =>
    have hn : l = [] := by
      cases l with
      | nil => rfl
      | cons x r => obtain ⟨b, o, vs, e, _⟩ := hs 0 x rfl; cases e
    subst hn
    refine (Tryz.slices_Clone_string_nil 0 c w).mono ?_
    rintro e w' ⟨rfl, rfl⟩
    exact ⟨⟨_, rfl, Own.nil⟩, Below.refl _ _⟩
  | some a =>
    cases l with
    | nil =>
      refine (Tryz.slices_Clone_string_zero a c w).mono ?_
      rintro e w' ⟨v', rfl, h1, _, h2⟩
      exact ⟨⟨_, rfl, h1⟩, h2⟩
    | cons x r =>
      obtain ⟨b, o, e, _, _⟩ := hs.str_at (i := 0) (by simp)
      obtain rfl := Option.some.inj e
      have hq := Tryz.slices_Clone_string b o (x :: r).length c (x :: r) w (Nat.le_refl _) (by omega) (fun j hj => by
        obtain ⟨b', o', e, _, h⟩ := hs.str_at hj
        simp only [Option.some.injEq, Addr.mk.injEq] at e
        obtain ⟨rfl, rfl, _⟩ := e
        rw [h, List.getD_eq_getElem?_getD, List.getElem?_eq_getElem hj]
        rfl)
      refine hq.mono ?_
      rintro e w' ⟨v', rfl, h1, _, h2⟩
      refine ⟨⟨_, rfl, ?_⟩, h2⟩
      rw [List.take_length] at h1
      unfold Own
      rw [show (x :: r).flatMap cellsStr = (x :: r).map (fun x => Value.string x) from flatMap_one (c := fun x => Value.string x) _]
      exact h1

def noSig : Value := .agg #[.string ByteArray.empty, .bool false, .slice none 0 0, .string ByteArray.empty]
structure LookR (cs : List Cls) (q : Int × Int) (e : Ending) (w' : World) : Prop where
  no : q = (-1, -1) → e = .returned (.tuple #[.string ByteArray.empty, .agg #[.string ByteArray.empty, .bool false, .slice none 0 0, .string ByteArray.empty], .bool false])
  yes : ∀ (j k : Nat) (hj : j < cs.length) (hk : k < cs[j].methods.length), q = ((j : Int), (k : Int)) →
    ∃ v, e = .returned (.tuple #[.string cs[j].name, .agg #[.string cs[j].methods[k].name, .bool cs[j].methods[k].static, v, .string cs[j].methods[k].result], .bool true]) ∧ StrsV w' v cs[j].methods[k].params
def lookS (cs : List Cls) (s m : ByteArray) : Int × Int := lookI cs m (fnd cs s)

set_option maxRecDepth 100000 in
set_option maxHeartbeats 1000000 in
theorem lookup_any (A : Option Addr) (c : Nat) (cs : List Cls) (s m : ByteArray) (w : World) (hl : cs.length ≤ 8796093022208) (hcc : cs.length ≤ c) (hsl : Sl Lay.cls w A cs) (hok : Hid (NamesOk cs)) (hlk : Hid (LensOk cs)) (hs : okStr s) :
    Calls Tryz.prog 57 #[.agg #[.slice A cs.length c], .string s, .string m] w fun e w' => LookR cs (lookS cs s m) e w' ∧ Below w.heap.size w w' := by
  have hfb := fnd_bd cs s
  have hcase := lookL_bd (cs := cs) (m := m) (chR_bd hfb.2).1
  have HLS : Hid (lookS cs s m = lookL cs m (chR cs (fnd cs s)).1) := rfl
  go_enter Tryz.func57, Tryz.ntmps57
  go_wp2_with fail
  have hb0 : Below w.heap.size w ((w.alloc (.cells #[.slice A cs.length c] 42)).alloc (.cells #[.string ByteArray.empty, .bool false, .slice none 0 0, .string ByteArray.empty] 98)) := (by repeat (first | assumption | exact Below.refl _ _ | apply bw_alloc | apply bw_drew | apply bw_drewN | apply bw_later | apply bw_step))
  have hbs := Box.new (w.alloc (.cells #[.slice A cs.length c] 42)) [.string ByteArray.empty, .bool false, .slice none 0 0, .string ByteArray.empty] 98
  rw [show (w.alloc (.cells #[.slice A cs.length c] 42)).heap.size = w.heap.size + 1 by simp] at hbs
  refine (tableOf_any A c cs _ (by omega) hcc (hsl.mono hb0) hok).mono ?_
  rintro e w1 ⟨⟨b, rfl, hT⟩, hb1⟩
  have hbw1 := below_step hb0 hb1
  have hbs1 := hbs.mono hb1
  clear hbs
  have hz1 := hbs1.lt
  go_wp2_with fail
  have hbx := Box.new w1 [.slice A cs.length c, .map (some b)] 148
  have hbw2 : Below w.heap.size w (w1.alloc (.cells #[.slice A cs.length c, .map (some b)] 148)) := bw_alloc hbw1
  have hbt : Below w1.heap.size w1 (w1.alloc (.cells #[.slice A cs.length c, .map (some b)] 148)).drew := (by repeat (first | assumption | exact Below.refl _ _ | apply bw_alloc | apply bw_drew | apply bw_drewN | apply bw_later | apply bw_step))
  refine wp_region_RW 11 (by kernel_rfl) (by kernel_rfl) ?_
  refine RW.chunk (f := 7) [0, 1, 2, 4] (by kernel_rfl) ?_
  ((simp only [pickOps, List.filterMap, List.getElem?_toArray, List.getElem?_cons_zero, List.getElem?_cons_succ]); (repeat (go_big_quiet_step (fail))); refine wpQuiet_nil ?_)
  refine RW.single 3 rfl (by kernel_rfl) (by omega) ?_
  intro K hK
  go_wp2_with fail
  refine (tFind_any A c b cs s _ (hT.mono hbt) hs).mono ?_
  rintro e w2 ⟨rfl, hb2⟩
  go_wp2_with fail
  refine hK _ _ hb2 ?_
  clear hK
  refine RW.single 5 rfl (by kernel_rfl) (by omega) ?_
  intro K hK
  go_wp2_with fail
  refine (tLookup_any A c b cs (fnd cs s) m _ hl (by omega) hfb.2 (hT.mono (below_step hbt hb2)) hok hlk).mono ?_
  rintro e w3 ⟨rfl, hb3⟩
  go_wp2_with fail
  refine hK _ _ hb3 ?_
  clear hK
  refine RW.chunk (f := 0) [6, 7, 8, 9, 10] (by kernel_rfl) ?_
  ((simp only [pickOps, List.filterMap, List.getElem?_toArray, List.getElem?_cons_zero, List.getElem?_cons_succ]); (repeat (go_big_quiet_step (fail))); refine wpQuiet_nil ?_)
  (refine RW.done (by kernel_rfl) (by kernel_rfl) ?_)
  have hb13 := below_step (below_step hbt hb2) hb3
  have hbw3 := below_step hbw1 hb13
  have hbs3 := hbs1.mono hb13
  have hbx3 := (hbx.drew.mono hb2).mono hb3
  have HL2 : Hid (lookI cs m (fnd cs s) = lookL cs m (chR cs (fnd cs s)).1) := rfl
  clear hb2 hb3 hbt hbw2 hbw1 hb1 hb0 hbx hbs1 hb13
  rw [HL2.out]
  rcases hcase with hno | ⟨j, k, hj, hk, hyes, hmem, hidx⟩
  · rw [hno]
    have c0 := hbs3.cell 0 rfl
    have c1 := hbs3.cell 1 rfl
    have c2 := hbs3.cell 2 rfl
    have c3 := hbs3.cell 3 rfl
    have f0 := hbs3.free 0
    have f1 := hbs3.free 1
    have f2 := hbs3.free 2
    have f3 := hbs3.free 3
    have hz3 := hbs3.lt
    go_wp2_with fail
    obtain ⟨hbz, hgz⟩ := hbs3.store4 (.string { data := #[] }) (.bool false) (.slice none 0 0) (.string { data := #[] })
    have hbw4 := hbw3.grown hgz hbw3.size (fun k hk => by injection hk with hk; omega)
    generalize ((((w3.setCell ⟨w.heap.size + 1, 0, none⟩ (.string { data := #[] })).setCell ⟨w.heap.size + 1, 1, none⟩ (.bool false)).setCell ⟨w.heap.size + 1, 2, none⟩ (.slice none 0 0)).setCell ⟨w.heap.size + 1, 3, none⟩ (.string { data := #[] })) = wz at *
    have q0 := hbz.cell 0 rfl
    have q1 := hbz.cell 1 rfl
    have q2 := hbz.cell 2 rfl
    have q3 := hbz.cell 3 rfl
    refine bodyPost_ret (v := .tuple #[.string { data := #[] }, .agg #[.string { data := #[] }, .bool false, .slice none 0 0, .string { data := #[] }], .bool false]) (by simp [results, Tryz.results57, go_sem, q0, q1, q2, q3]) rfl ⟨⟨fun _ => rfl, fun j k hj hk h => ?_⟩, hbw4⟩
    rw [HLS.out, hno] at h
    injection h with h1 h2
    omega
  · have c0 := hbs3.cell 0 rfl
    have c1 := hbs3.cell 1 rfl
    have c2 := hbs3.cell 2 rfl
    have c3 := hbs3.cell 3 rfl
    have f0 := hbs3.free 0
    have f1 := hbs3.free 1
    have f2 := hbs3.free 2
    have f3 := hbs3.free 3
    have hz3 := hbs3.lt
    have hzx := hbx3.lt
    have e0 := hbx3.cell 0 rfl
    obtain ⟨b0, o, A2, cc2, A3, cc3, rfl, hb, d0, d1, d2, d3, hc2, hs2, hc3, hs3⟩ := hsl.cls_at hj
    obtain ⟨bM, oM, A4, cc4, rfl, hbM, m0, m1, m2, m3, hc4, hs4⟩ := hs3.sg_at hk
    have d0' := keptC d0 hb hbw3
    have d3' := keptC d3 hb hbw3
    have m0' := keptC m0 hbM hbw3
    have m1' := keptC m1 hbM hbw3
    have m2' := keptC m2 hbM hbw3
    have m3' := keptC m3 hbM hbw3
    have hpl := (hlk.out _ (List.getElem_mem hj)).2.2 _ (List.getElem_mem hk)
    rw [hyes]
    go_wp2_with fail
    obtain ⟨hbz, hgz⟩ := hbs3.store4 (.string cs[j].methods[k].name) (.bool cs[j].methods[k].static) (.slice A4 cs[j].methods[k].params.length cc4) (.string cs[j].methods[k].result)
    have hbw4 := hbw3.grown hgz hbw3.size (fun k hk => by injection hk with hk; omega)
    have hbx4 := hbx3.grown hgz (fun h => by have := Option.some.inj h; omega)
    generalize ((((w3.setCell ⟨w.heap.size + 1, 0, none⟩ (.string cs[j].methods[k].name)).setCell ⟨w.heap.size + 1, 1, none⟩ (.bool cs[j].methods[k].static)).setCell ⟨w.heap.size + 1, 2, none⟩ (.slice A4 cs[j].methods[k].params.length cc4)).setCell ⟨w.heap.size + 1, 3, none⟩ (.string cs[j].methods[k].result)) = wz at *
    clear c0 c1 c2 c3 f0 f1 f2 f3 d0' d3' m0' m1' m2' m3' hbs3 hbx3 hgz e0
    refine (cloneStrs_any A4 cc4 cs[j].methods[k].params _ (by omega) (hs4.mono hbw4)).mono ?_
    rintro e w5 ⟨⟨v5, rfl, hown5⟩, hb5⟩
    have hbw5 := below_step hbw4 hb5
    have hbs5 := hbz.mono hb5
    have hbx5 := hbx4.mono hb5
    have c0 := hbs5.cell 0 rfl
    have c1 := hbs5.cell 1 rfl
    have c2 := hbs5.cell 2 rfl
    have c3 := hbs5.cell 3 rfl
    have f0 := hbs5.free 0
    have f1 := hbs5.free 1
    have f2 := hbs5.free 2
    have f3 := hbs5.free 3
    have hz5 := hbs5.lt
    have hx5 := hbx5.lt
    have e0 := hbx5.cell 0 rfl
    have d0' := keptC d0 hb hbw5
    obtain ⟨A5, cc5, rfl, hc5, hs5⟩ := StrsV.of_own hown5
    go_wp2_with fail
    have hbs6 := hbs5.set 2 (.slice A5 cs[j].methods[k].params.length cc5)
    have hg6 := grown_set w5 (w.heap.size + 1) 2 (.slice A5 cs[j].methods[k].params.length cc5)
    have hbw6 := hbw5.grown hg6 hbw5.size (fun k hk => by injection hk with hk; omega)
    have hbx6 := hbx5.grown hg6 (fun h => by have := Option.some.inj h; omega)
    have hown6 := World.ownsRow.kept hown5 hg6 (own_ne hown5 (by have := hbz.lt; omega))
    generalize w5.setCell ⟨w.heap.size + 1, 2, none⟩ (.slice A5 cs[j].methods[k].params.length cc5) = w6 at *
    clear c0 c1 c2 c3 f0 f1 f2 f3 d0' e0 hbs5 hbx5 hg6 hs5
    have c0 := hbs6.cell 0 rfl
    have c1 := hbs6.cell 1 rfl
    have c2 := hbs6.cell 2 rfl
    have c3 := hbs6.cell 3 rfl
    have f0 := hbs6.free 0
    have f1 := hbs6.free 1
    have f2 := hbs6.free 2
    have f3 := hbs6.free 3
    have hz6 := hbs6.lt
    have hx6 := hbx6.lt
    have e0 := hbx6.cell 0 rfl
    have d0' := keptC d0 hb hbw6
    have hb6 := Nat.lt_of_lt_of_le hb hbw6.size
    refine wp_region_RW 8 (by kernel_rfl) (by kernel_rfl) ?_
    refine RW.chunk (f := 0) [0, 1, 2, 3, 4, 5, 6, 7] (by kernel_rfl) ?_
    ((simp only [pickOps, List.filterMap, List.getElem?_toArray, List.getElem?_cons_zero, List.getElem?_cons_succ]); (repeat (go_big_quiet_step (fail))); refine wpQuiet_nil ?_)
    (refine RW.tail (by kernel_rfl) ?_; (simp only [List.drop_succ_cons, List.drop_zero]))
    go_wp2_with fail
    obtain ⟨hbs7, hg7⟩ := hbs6.store4 (.string cs[j].methods[k].name) (.bool cs[j].methods[k].static) (.slice A5 cs[j].methods[k].params.length cc5) (.string cs[j].methods[k].result)
    have hbw7 := hbw6.grown hg7 hbw6.size (fun k hk => by injection hk with hk; omega)
    have hown7 := World.ownsRow.kept hown6 hg7 (own_ne hown5 (by have := hbz.lt; omega))
    generalize ((((w6.setCell ⟨w.heap.size + 1, 0, none⟩ (.string cs[j].methods[k].name)).setCell ⟨w.heap.size + 1, 1, none⟩ (.bool cs[j].methods[k].static)).setCell ⟨w.heap.size + 1, 2, none⟩ (.slice A5 cs[j].methods[k].params.length cc5)).setCell ⟨w.heap.size + 1, 3, none⟩ (.string cs[j].methods[k].result)) = w7 at *
    have q0 := hbs7.cell 0 rfl
    have q1 := hbs7.cell 1 rfl
    have q2 := hbs7.cell 2 rfl
    have q3 := hbs7.cell 3 rfl
    have hsv := StrsV.of_own (show Own cellsStr 1 wz.heap.size 9 w7.drew _ cs[j].methods[k].params from hown7)
    refine bodyPost_ret (v := .tuple #[.string cs[j].name, .agg #[.string cs[j].methods[k].name, .bool cs[j].methods[k].static, .slice A5 cs[j].methods[k].params.length cc5, .string cs[j].methods[k].result], .bool true]) (by simp [results, Tryz.results57, go_sem, q0, q1, q2, q3]) rfl ⟨⟨fun h => ?_, fun j' k' hj' hk' h => ?_⟩, hbw7.drew⟩
    · rw [HLS.out, hyes] at h
      injection h with h1 h2
      omega
    · rw [HLS.out, hyes] at h
      injection h with h1 h2
      obtain rfl : j = j' := by omega
      obtain rfl : k = k' := by omega
      exact ⟨_, rfl, hsv⟩
end Go.Proofs.YthabojhnliomnaaGreatDoor
