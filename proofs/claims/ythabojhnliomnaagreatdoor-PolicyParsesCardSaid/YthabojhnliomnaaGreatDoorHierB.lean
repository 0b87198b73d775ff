/-
  Chapter 10: the table of a hierarchy: its first classes by name, superclasses, chains.
-/
import Derived.Test.YthabojhnliomnaaGreatDoorHierA
import Derived.Test.YthabojhnliomnaaGreatDoorMapS
import Derived.Test.YthabojhnliomnaaGreatDoorReg
import Derived.Test.YthabojhnliomnaaGreatDoorBox
namespace Go.Proofs.YthabojhnliomnaaGreatDoor
open Go.RowKit
set_option linter.unusedVariables false

theorem strIntTy : MapTy Tryz.prog 146 9 3 (fun x : ByteArray => .string x) okStr (fun x => .string x.data.toList) (fun y : Int => .int .i64 y) okInt (fun y => .lit (.int .i64 y)) 0 :=
  MapTy.str_int Tryz.underlying146 Tryz.underlying9 Tryz.underlying3 (fun w => by kernel_rfl)
theorem intBoolTy : MapTy Tryz.prog 193 3 4 (fun x : Int => .int .i64 x) okInt (fun x => .int .i64 x) (fun y : Bool => .bool y) (fun _ => True) (fun y => .lit (.bool y)) false :=
  MapTy.int_bool Tryz.underlying193 Tryz.underlying3 Tryz.underlying4 (fun w => by kernel_rfl)
theorem run_makeMap_hint {P : Program} (t k e : TypeId) (ht : P.underlying t = some (.map k e)) (kd : IntKind) (n : Int) (w : World) :
    (Instr.makeMap t (some (.int kd n))).run P w = .ok (.map (some w.heap.size)) (w.alloc (.map #[] 0)) := by
  simp [Instr.makeMap, run_underlying ht]; rfl
/-- The index of the first class of each name. -/
def firstF (cs : List Cls) (s : ByteArray) : Option Int := (cs.findIdx? (isCls s)).map Int.ofNat
structure TabV (w : World) (A : Option Addr) (c b : Nat) (cs : List Cls) : Prop where
  sl : Sl Lay.cls w A cs
  le : cs.length ≤ c
  map : ∃ n, MapIs strIntTy w b n (firstF cs)
theorem TabV.mono {w w' : World} {A : Option Addr} {c b : Nat} {cs : List Cls} (h : TabV w A c b cs) (hb : Below w.heap.size w w') : TabV w' A c b cs :=
  ⟨h.sl.mono hb, h.le, h.map.imp fun n hn => hn.mono hb⟩
def NamesOk (cs : List Cls) : Prop := ∀ x ∈ cs, okStr x.name ∧ okStr x.super

theorem map0 (w : World) {b : Nat} (h : w.heap.size = b) : MapIs strIntTy (w.alloc (.map #[] 0)) b 0 (firstF []) := by
  subst h
  have : firstF [] = fun _ => none := by funext s; simp [firstF]
  rw [this]
  exact MapIs.made _ _
theorem eqS_iff {a b : ByteArray} : (a.toList == b.toList) = true ↔ a = b := by
  rw [beq_iff_eq, ByteArray.toList_eq, ByteArray.toList_eq, Array.toList_inj]
  exact ⟨fun h => ByteArray.ext h, fun h => by rw [h]⟩
theorem firstF_nil : firstF [] = fun _ => none := by funext s; simp [firstF]
theorem firstF_snoc (cs : List Cls) (x : Cls) (s : ByteArray) : firstF (cs ++ [x]) s = (firstF cs s).or (if s = x.name then some (cs.length : Int) else none) := by
  unfold firstF
  rw [List.findIdx?_append]
  cases h : cs.findIdx? (isCls s) with
  | some i => simp
  | none =>
    simp only [Option.map_none, Option.none_or]
    by_cases e : s = x.name
    · have : isCls s x = true := by unfold isCls; rw [eqS_iff, e]
      rw [if_pos e]
      simp [this]
    · have : isCls s x = false := by
        cases hq : isCls s x with
        | false => rfl
        | true => exact absurd (eqS_iff.1 hq).symm e
      simp [this, e]
theorem firstF_new {cs : List Cls} {x : Cls} (h : (firstF cs x.name).isSome = false) : firstF (cs ++ [x]) = putF (firstF cs) x.name (cs.length : Int) := by
  funext s
  rw [firstF_snoc]
  unfold putF
  by_cases e : s = x.name
  · subst e
    rw [if_pos rfl, if_pos rfl]
    cases h2 : firstF cs x.name with
    | none => rfl
    | some y => rw [h2] at h; cases h
  · rw [if_neg e, if_neg e, Option.or_none]
theorem firstF_old {cs : List Cls} {x : Cls} (h : (firstF cs x.name).isSome = true) : firstF (cs ++ [x]) = firstF cs := by
  funext s
  rw [firstF_snoc]
  by_cases e : s = x.name
  · subst e
    cases h2 : firstF cs x.name with
    | none => rw [h2] at h; cases h
    | some y => rfl
  · rw [if_neg e, Option.or_none]

set_option maxRecDepth 100000 in
set_option maxHeartbeats 1000000 in
theorem tableOf_any (A : Option Addr) (c : Nat) (cs : List Cls) (w : World) (hl : cs.length ≤ 9223372036854775807) (hcc : cs.length ≤ c) (hs : Sl Lay.cls w A cs) (hok : Hid (NamesOk cs)) :
    Calls Tryz.prog 104 #[.agg #[.slice A cs.length c]] w fun e w' => (∃ b, e = .returned (.agg #[.slice A cs.length c, .map (some b)]) ∧ TabV w' A c b cs) ∧ Below w.heap.size w w' := by
  have hmk := run_makeMap_hint (P := Tryz.prog) 146 9 3 Tryz.underlying146
  go_enter Tryz.func104, Tryz.ntmps104
  go_upto_region 1 with fail
  go_cut [3] (fun s3 wx => ∃ bm bx : Nat, s3 = .pointer (some ⟨bx, 0, none⟩) ∧ Box wx bx [.slice A cs.length c, .map (some bm)] 148 ∧ MapIs strIntTy wx bm 0 (firstF []) ∧ Box wx w.heap.size [.slice A cs.length c] 42 ∧ Box wx (w.heap.size + 1) [.slice none 0 0, .map none] 148 ∧ w.heap.size + 1 < bm ∧ w.heap.size + 1 < bx ∧ bx ≠ bm ∧ Below w.heap.size w wx)
  case first =>
    refine wp_region_RW 8 (by kernel_rfl) (by kernel_rfl) ?_
    refine RW.chunk (f := 3) [0, 1, 2, 3, 4] (by kernel_rfl) ?_
    simp only [pickOps, List.filterMap, List.getElem?_toArray, List.getElem?_cons_zero, List.getElem?_cons_succ]
    repeat (go_big_quiet_step (fail))
    refine wpQuiet_nil ?_
    refine RW.both 5 7 rfl rfl (by kernel_rfl) (by omega) (by omega) ?_ ?_
    · intro K hK
      go_wp2_with fail
      refine hK _ _ (bw_alloc (Below.refl _ _)) ?_
      clear hK
      refine RW.chunk (f := 1) [6] (by kernel_rfl) ?_
      simp only [pickOps, List.filterMap, List.getElem?_toArray, List.getElem?_cons_zero, List.getElem?_cons_succ]
      repeat (go_big_quiet_step (fail))
      refine wpQuiet_nil ?_
      refine RW.single 7 rfl (by kernel_rfl) (by omega) ?_
      intro K hK
      go_wp2_with fail
      refine hK _ _ (bw_alloc (Below.refl _ _)) ?_
      clear hK
      refine RW.tail (by kernel_rfl) ?_
      simp only [List.drop_succ_cons, List.drop_zero]
      go_wp2_with fail
      go_meet
      exact ⟨w.heap.size + 1 + 1, w.heap.size + 1 + 1 + 1, rfl, (by repeat (first | (refine Box.at ?_; (simp; done)) | apply Box.drew | apply Box.alloc | assumption)), (map0 _ (by simp)).alloc _, (by repeat (first | (refine Box.at ?_; (simp; done)) | apply Box.drew | apply Box.alloc | assumption)), (by repeat (first | (refine Box.at ?_; (simp; done)) | apply Box.drew | apply Box.alloc | assumption)), by omega, by omega, by omega, (by repeat (first | assumption | exact Below.refl _ _ | apply bw_alloc | apply bw_drew | apply bw_drewN | apply bw_later | apply bw_step))⟩
    · intro K hK
      go_wp2_with fail
      refine hK _ _ (bw_alloc (Below.refl _ _)) ?_
      clear hK
      refine RW.single 5 rfl (by kernel_rfl) (by omega) ?_
      intro K hK
      go_wp2_with fail
      refine hK _ _ (bw_alloc (Below.refl _ _)) ?_
      clear hK
      refine RW.chunk (f := 0) [6] (by kernel_rfl) ?_
      simp only [pickOps, List.filterMap, List.getElem?_toArray, List.getElem?_cons_zero, List.getElem?_cons_succ]
      repeat (go_big_quiet_step (fail))
      refine wpQuiet_nil ?_
      refine RW.tail (by kernel_rfl) ?_
      simp only [List.drop_succ_cons, List.drop_zero]
      go_wp2_with fail
      go_meet
      exact ⟨w.heap.size + 1 + 1 + 1, w.heap.size + 1 + 1, rfl, (by repeat (first | (refine Box.at ?_; (simp; done)) | apply Box.drew | apply Box.alloc | assumption)), map0 _ (by simp), (by repeat (first | (refine Box.at ?_; (simp; done)) | apply Box.drew | apply Box.alloc | assumption)), (by repeat (first | (refine Box.at ?_; (simp; done)) | apply Box.drew | apply Box.alloc | assumption)), by omega, by omega, by omega, (by repeat (first | assumption | exact Below.refl _ _ | apply bw_alloc | apply bw_drew | apply bw_drewN | apply bw_later | apply bw_step))⟩
  case rest =>
    obtain ⟨bm, bx, rfl, hbx, hm, hb1, hb2, hgm, hgx, hne, hbw⟩ := hcut
    have HNE := Lib.hid hne
    clear hne
    clear hmk
    have d0 := hb1.cell 0 rfl
    go_wp2_with fail
    go_loopw [18] (fun i wr => ∃ k n : Nat, k ≤ cs.length ∧ n ≤ k ∧ i = .int .i64 k ∧ Box wr bx [.slice A cs.length c, .map (some bm)] 148 ∧ MapIs strIntTy wr bm n (firstF (cs.take k)) ∧ Box wr (w.heap.size + 1) [.slice none 0 0, .map none] 148 ∧ Below w.heap.size w wr) (fun i _ => cs.length - (intOf i).toNat)
    case atStart => exact ⟨0, 0, Nat.zero_le _, Nat.zero_le _, rfl, hbx, hm, hb2, hbw⟩
    case round =>
      clear hbx hm hb1 hb2 hbw d0
      obtain ⟨k, n, hk, hn, rfl, hbx, hm, hb2, hbw⟩ := hrel
      by_cases hlt : k < cs.length
      · obtain ⟨b, o, A2, c2, A3, c3, rfl, hb, d0, d1, d2, d3, hc2, hs2, hc3, hs3⟩ := (hs.mono hbw).cls_at hlt
        have e0 := hbx.cell 0 rfl
        have e1 := hbx.cell 1 rfl
        have hxl := hbx.lt
        have hml := hm.lt
        have hkx : okStr cs[k].name := (hok.out _ (List.getElem_mem hlt)).1
        have hlk := fun o => (hm.alloc o).look_ok hkx
        have HT := Lib.hid (List.take_succ_eq_append_getElem hlt)
        have htl : (cs.take k).length = k := by rw [List.length_take]; omega
        cases hq : (firstF (cs.take k) cs[k].name).isSome with
        | true =>
          have HS := Lib.hid (firstF_old hq)
          rw [← HT.out] at HS
          rw [hq] at hlk
          clear hq htl
          go_wp2_with fail
          go_roundw
          case rel => exact ⟨k + 1, n, by omega, by omega, by go_num, hbx.alloc _, by rw [HS.out]; exact hm.alloc _, hb2.alloc _, bw_alloc hbw⟩
          case measure => simp [intOf]; omega
        | false =>
          have HS := Lib.hid (firstF_new hq)
          rw [← HT.out, htl] at HS
          rw [hq] at hlk
          clear hq htl
          go_wp2_with (at_mapUpdate; refine wpList_mapSet strIntTy rfl (.tmp 34) (.tmp 36) (.tmp 37) rfl bm n _ rfl (hm.alloc _) (by unfold maxLen; omega) cs[k].name (k : Int) rfl rfl hkx (okInt_of (by omega) (by omega)) ?_; intro w2 hm2 hg2)
          go_roundw
          case rel => exact ⟨k + 1, n + 1, by omega, by omega, by go_num, (hbx.alloc _).grown hg2 (fun h => HNE.out (Option.some.inj h)), by rw [HS.out]; exact hm2, (hb2.alloc _).grown hg2 (fun h => by have := Option.some.inj h; omega), (bw_alloc hbw).grown hg2 (by have := hbw.size; simp; omega) (fun k hk => by injection hk with hk; omega)⟩
          case measure => simp [intOf]; omega
      · have HK := Lib.hid (show cs.take k = cs from List.take_of_length_le (by omega))
        rw [HK.out] at hm
        have e0 := hbx.cell 0 rfl
        have e1 := hbx.cell 1 rfl
        have f0 := hb2.cell 0 rfl
        have f1 := hb2.cell 1 rfl
        have g0 := hb2.free 0
        have g1 := hb2.free 1
        have hxl := hb2.lt
        go_wp2_with fail
        have hb3 := (hb2.set 0 (.slice A cs.length c)).set 1 (.map (some bm))
        have q0 := hb3.cell 0 rfl
        have q1 := hb3.cell 1 rfl
        have hk2 : wr.grownBy ((wr.setCell ⟨w.heap.size + 1, 0, none⟩ (Value.slice A cs.length c)).setCell ⟨w.heap.size + 1, 1, none⟩ (Value.map (some bm))) (some (w.heap.size + 1)) := grown_set2 _ _ _ _ _ _
        have hbz : Below w.heap.size w ((wr.setCell ⟨w.heap.size + 1, 0, none⟩ (Value.slice A cs.length c)).setCell ⟨w.heap.size + 1, 1, none⟩ (Value.map (some bm))) := hbw.grown hk2 hbw.size (fun k hk => by injection hk with hk; omega)
        have hmz := hm.kept hk2 (fun h => by have := Option.some.inj h; omega)
        generalize ((wr.setCell ⟨w.heap.size + 1, 0, none⟩ (Value.slice A cs.length c)).setCell ⟨w.heap.size + 1, 1, none⟩ (Value.map (some bm))) = wz at *
        exact bodyPost_ret (v := .agg #[.slice A cs.length c, .map (some bm)]) (by simp [results, Tryz.results104, go_sem, q0, q1]) rfl ⟨⟨bm, rfl, ⟨hs.mono hbz, hcc, ⟨_, hmz⟩⟩⟩, hbz⟩
end Go.Proofs.YthabojhnliomnaaGreatDoor
