/-
  Chapter 47: the keys of findings, in the program and in the reference. (Printed by wip/gen/rtC.py.)
-/
import Derived.Test.YtlcdnkloijehjaaGreatDoorRtB
import Derived.Test.YtlcdnkloijehjaaGreatDoorRepT
import Derived.Test.YtlcdnkloijehjaaGreatDoorRegZ
namespace Go.Proofs.YtlcdnkloijehjaaGreatDoor
open Go.RowKit
set_option linter.unusedVariables false

structure OkKey (x : Fnd) : Prop where
  k : I64 x.kind
  i : I64 x.plc.ins
  c : x.plc.cls.size ≤ 140737488355328
  m : x.plc.mth.size ≤ 140737488355328
  w : x.what.size ≤ 140737488355328
def keyN (n : Int) : ByteArray := bsOf (dg n)
theorem keyD {n : Int} (h : I64 n) : (keyN n).size ≤ 21 := by unfold keyN; rw [bsOf_size]; exact dg_len h.1 h.2
theorem keyB_eq (x : Fnd) : keyB x = keyN x.kind ++ ⟨#[32]⟩ ++ x.plc.cls ++ ⟨#[46]⟩ ++ x.plc.mth ++ ⟨#[35]⟩ ++ keyN x.plc.ins ++ ⟨#[32]⟩ ++ x.what := by
  refine toL_inj ?_
  unfold keyB keyT keyN
  simp only [toL_app, toL_bsOf]
  rfl
set_option maxHeartbeats 4000000 in
set_option maxRecDepth 100000 in
theorem key_any (x : Fnd) (A : Option Addr) (n c : Nat) (w : World) (hg : Glo w) (hk : OkKey x) :
    Calls Tryz.prog 81 #[.agg #[.int .i64 x.kind, .string x.plc.cls, .string x.plc.mth, .int .i64 x.plc.ins, .string x.what, .slice A n c]] w fun e w' => e = .returned (.string (keyB x)) ∧ Below w.heap.size w w' := by
  have bx0 := Box.new w [.int .i64 x.kind, .string x.plc.cls, .string x.plc.mth, .int .i64 x.plc.ins, .string x.what, .slice A n c] 46
  have hb0 : Below w.heap.size w (w.alloc (.cells #[.int .i64 x.kind, .string x.plc.cls, .string x.plc.mth, .int .i64 x.plc.ins, .string x.what, .slice A n c] 46)) := (by repeat (first | assumption | exact Below.refl _ _ | apply bw_alloc | apply bw_drew | apply bw_drewN | apply bw_later | apply bw_step))
  have HF0 := Lib.hid (fun (n : Int) (hn : I64 n) => keyD hn)
  have HK := Lib.hid (keyB_eq x)
  have hI : ∀ (n : Int) (W : World), Below w.heap.size w W → I64 n → Calls Tryz.prog 33 #[.int .i64 n] W fun e w' => e = .returned (.string (keyN n)) ∧ Below W.heap.size W w' := fun n W h hn => itoa_any n W hn (hg.mono h)
  have HI := Lib.hid hI
  obtain ⟨k1, k2, k3, k4, k5⟩ := hk
  obtain ⟨kd, ⟨cl, mt, ins⟩, wh, pt⟩ := x
  simp only at k1 k2 k3 k4 k5 HK bx0 hb0 ⊢
  have z1 := HF0.out kd k1
  have z2 := HF0.out ins k2
  generalize keyB ⟨kd, ⟨cl, mt, ins⟩, wh, pt⟩ = KB at *
  obtain ⟨F, HFF⟩ : ∃ F, Hid (F = keyN) := ⟨_, Lib.hid rfl⟩
  rw [← HFF.out] at z1 z2 HK HI
  clear hI HF0 HFF
  go_enter Tryz.func81, Tryz.ntmps81
  go_upto_region 1 with fail
  generalize World.alloc w _ = w1 at *
  have p0 := bx0.cell 0 rfl
  have p1 := bx0.cell 1 rfl
  have p2 := bx0.cell 2 rfl
  have p3 := bx0.cell 3 rfl
  have p4 := bx0.cell 4 rfl
  have pl := bx0.lt
  have HL : Hid (∀ (n : Int) (z : Later w1), I64 n → Calls Tryz.prog 33 #[.int .i64 n] z.W fun e w'' => e = .returned (.string (F n)) ∧ ∃ y : Later w1, w'' = y.W) := fun n z hn => Calls.later (HI.out n _ (below_step hb0 z.h) hn)
  clear HI
  refine wp_region_later (by kernel_rfl) (by kernel_rfl) ?_
  repeat (go_big_quiet_step ((go_at_call 33; first | exact HL.out _ _ k1 | exact HL.out _ _ k2)))
  refine wpQuiet_nil ?_
  rintro _ ⟨z, rfl⟩
  go_wp2_with fail
  go_ret
  exact ⟨by rw [HK.out]; rfl, below_step hb0 z.h⟩
set_option maxHeartbeats 4000000 in
set_option maxRecDepth 100000 in
theorem refKey_any (x : Fnd) (A : Option Addr) (n c : Nat) (w : World) (hk : OkKey x) :
    Calls Tryz.prog 85 #[.agg #[.int .i64 x.kind, .string x.plc.cls, .string x.plc.mth, .int .i64 x.plc.ins, .string x.what, .slice A n c]] w fun e w' => e = .returned (.string (keyB x)) ∧ Below w.heap.size w w' := by
  have bx0 := Box.new w [.int .i64 x.kind, .string x.plc.cls, .string x.plc.mth, .int .i64 x.plc.ins, .string x.what, .slice A n c] 46
  have hb0 : Below w.heap.size w (w.alloc (.cells #[.int .i64 x.kind, .string x.plc.cls, .string x.plc.mth, .int .i64 x.plc.ins, .string x.what, .slice A n c] 46)) := (by repeat (first | assumption | exact Below.refl _ _ | apply bw_alloc | apply bw_drew | apply bw_drewN | apply bw_later | apply bw_step))
  have HF0 := Lib.hid (fun (n : Int) (hn : I64 n) => keyD hn)
  have HK := Lib.hid (keyB_eq x)
  have hI : ∀ (n : Int) (W : World), Below w.heap.size w W → I64 n → Calls Tryz.prog 40 #[.int .i64 n] W fun e w' => e = .returned (.string (keyN n)) ∧ Below W.heap.size W w' := fun n W h hn => digits_any n W hn
  have HI := Lib.hid hI
  obtain ⟨k1, k2, k3, k4, k5⟩ := hk
  obtain ⟨kd, ⟨cl, mt, ins⟩, wh, pt⟩ := x
  simp only at k1 k2 k3 k4 k5 HK bx0 hb0 ⊢
  have z1 := HF0.out kd k1
  have z2 := HF0.out ins k2
  generalize keyB ⟨kd, ⟨cl, mt, ins⟩, wh, pt⟩ = KB at *
  obtain ⟨F, HFF⟩ : ∃ F, Hid (F = keyN) := ⟨_, Lib.hid rfl⟩
  rw [← HFF.out] at z1 z2 HK HI
  clear hI HF0 HFF
  go_enter Tryz.func85, Tryz.ntmps85
  go_upto_region 1 with fail
  generalize World.alloc w _ = w1 at *
  have p0 := bx0.cell 0 rfl
  have p1 := bx0.cell 1 rfl
  have p2 := bx0.cell 2 rfl
  have p3 := bx0.cell 3 rfl
  have p4 := bx0.cell 4 rfl
  have pl := bx0.lt
  have HL : Hid (∀ (n : Int) (z : Later w1), I64 n → Calls Tryz.prog 40 #[.int .i64 n] z.W fun e w'' => e = .returned (.string (F n)) ∧ ∃ y : Later w1, w'' = y.W) := fun n z hn => Calls.later (HI.out n _ (below_step hb0 z.h) hn)
  clear HI
  refine wp_region_later (by kernel_rfl) (by kernel_rfl) ?_
  repeat (go_big_quiet_step ((go_at_call 40; first | exact HL.out _ _ k1 | exact HL.out _ _ k2)))
  refine wpQuiet_nil ?_
  rintro _ ⟨z, rfl⟩
  go_wp2_with fail
  go_ret
  exact ⟨by rw [HK.out]; rfl, below_step hb0 z.h⟩

set_option maxHeartbeats 4000000 in
set_option maxRecDepth 100000 in
theorem keys_any (l : List Fnd) (A0 A1 A2 : Option Addr) (c0 n1 c1 n2 c2 : Nat) (w : World) (hg : Glo w) (hk : Hid (∀ x ∈ l, OkKey x)) (hl : l.length ≤ 1600000000000) (hs : Sl Lay.fnd w A0 l) :
    Calls Tryz.prog 54 #[.agg #[.slice A0 l.length c0, .slice A1 n1 c1, .slice A2 n2 c2]] w fun e w' => RetSt w w' (keysS l) e ∧ Below w.heap.size w w' := by
  have hb0 : Below w.heap.size w (w.alloc (.cells #[.slice A0 l.length c0, .slice A1 n1 c1, .slice A2 n2 c2] 26)) := (by repeat (first | assumption | exact Below.refl _ _ | apply bw_alloc | apply bw_drew | apply bw_drewN | apply bw_later | apply bw_step))
  obtain ⟨R, HR⟩ : ∃ R, Hid (R = keysS l) := ⟨_, Lib.hid rfl⟩
  rw [← HR.out]
  go_enter Tryz.func54, Tryz.ntmps54
  go_wp2_with fail
  go_loopw [3, 9] (fun v i wr => ∃ k : Nat, k ≤ l.length ∧ i = .int .i64 k ∧ Own cellsStr 1 w.heap.size 9 wr v ((l.take k).map keyB) ∧ Below w.heap.size w wr) (fun _ i _ => l.length - (intOf i).toNat)
  case atStart => exact ⟨0, Nat.zero_le _, rfl, Own.nil, hb0⟩
  case round =>
    clear hb0
    obtain ⟨k, hk0, rfl, ho, hbw⟩ := hrel
    obtain ⟨AT, nT, cT, rfl⟩ := own_isSl ho
    have htl : ((l.take k).map keyB).length ≤ k := by rw [List.length_map, List.length_take]; omega
    by_cases hlt : k < l.length
    · obtain ⟨b, o, A3, c3, rfl, h1, d0, d1, d2, d3, d4, d5, hc3, hs3⟩ := (hs.mono hbw).fnd_at hlt
      have HS := Lib.hid (keys_snoc hlt)
      have hbf : Below wr.heap.size wr (wr.alloc (.cells #[.int .i64 l[k].kind, .string l[k].plc.cls, .string l[k].plc.mth, .int .i64 l[k].plc.ins, .string l[k].what, .slice A3 l[k].path.length c3] 46)) := by exact (by repeat (first | assumption | exact Below.refl _ _ | apply bw_alloc | apply bw_drew | apply bw_drewN | apply bw_later | apply bw_step))
      have HC := Lib.hid (key_any l[k] A3 l[k].path.length c3 _ (hg.mono (below_step hbw hbf)) (hk.out _ (List.getElem_mem hlt)))
      obtain ⟨x, hx⟩ : ∃ x, x = keyB l[k] := ⟨_, rfl⟩
      rw [← hx] at HS HC
      clear hx
      go_wp2_with fail
      refine HC.out.mono ?_
      rintro e w1 ⟨rfl, hb1⟩
      have hb2 := below_step hbf hb1
      have ho2 := ho.mono hb2
      have hbw2 := below_step hbw hb2
      go_wp2_with (at_builtin; refine wpList_push strsTy cellsStr_ok rfl (.tmp 13) (.tmp 16) rfl w.heap.size _ ((l.take k).map keyB) rfl (ho2.alloc _) x _ _ rfl (cells_one_new _ _ _) (by unfold maxLen; omega) (by omega) (by have := hbw2.size; simp; omega) ?_; intro v1 w2 hown1 hbb; obtain ⟨A1, n1, q1, rfl⟩ := own_isSl hown1)
      go_roundw
      case rel => exact ⟨k + 1, by omega, by go_num, by rw [HS.out]; exact hown1, (bw_alloc hbw2).trans hbb⟩
      case measure => simp [intOf]; omega
    · obtain rfl : k = l.length := by omega
      rw [List.take_length] at ho htl
      go_wp2_with fail
      refine (sortStrings_own _ (l.map keyB) w.heap.size _ ho (by omega)).mono ?_
      rintro e w1 ⟨rfl, ho1, hb1⟩
      go_wp2_with fail
      refine (compactStrings_own _ (sortS (l.map keyB)) w.heap.size _ ho1 (by rw [sortS_len]; omega)).mono ?_
      rintro e w2 ⟨⟨v2, rfl, ho2⟩, hb2⟩
      go_wp2_with fail
      go_ret
      have hbw1 := hbw.grown hb1 hbw.size (fun k hk => (World.ownsRow.lt ho k hk).1)
      exact ⟨⟨_, rfl, by rw [HR.out]; exact ho2⟩, hbw1.grown hb2 hbw1.size (fun k hk => (World.ownsRow.lt ho1 k hk).1)⟩
theorem takeS {w : World} {A : Option Addr} {l : List ByteArray} (h : Sl Lay.str w A l) (k : Nat) : Sl Lay.str w A (l.take k) := fun i x hx => h i x (by
  rw [List.getElem?_take] at hx
  split at hx
  · exact hx
  · cases hx)
theorem dropS {w : World} {b o : Nat} {l : List ByteArray} (h : Sl Lay.str w (some ⟨b, o, none⟩) l) (k : Nat) : Sl Lay.str w (some ⟨b, o + k, none⟩) (l.drop k) := fun i x hx => by
  rw [List.getElem?_drop] at hx
  obtain ⟨b', o', vs, e, hlt, hr, hc⟩ := h (k + i) x hx
  injection e with e
  injection e with e1 e2
  subst e1 e2
  refine ⟨_, _, vs, rfl, hlt, hr, fun j v hj => ?_⟩
  have := hc j v hj
  rw [show Lay.str.size = 1 from rfl] at this ⊢
  rw [show o + k + i * 1 + j = o + (k + i) * 1 + j by omega]
  exact this
theorem below_undrewC {w W : World} (h : Below w.heap.size w W) : Below w.drew.heap.size w.drew W := ⟨h.os, h.tape, h.output, h.size, h.block⟩
set_option maxHeartbeats 8000000 in
set_option maxRecDepth 100000 in
theorem refKeys_any (l : List Fnd) (A0 : Option Addr) (c0 : Nat) (w : World) (hk : Hid (∀ x ∈ l, OkKey x)) (hl : l.length ≤ 1600000000000) (hs : Sl Lay.fnd w A0 l) :
    Calls Tryz.prog 56 #[.slice A0 l.length c0] w fun e w' => RetSt w w' (keysS l) e ∧ Below w.heap.size w w' := by
  unfold keysS
  rw [← putAllS_eq]
  go_enter Tryz.func56, Tryz.ntmps56
  go_wp2_with fail
  go_loopw [3, 4] (fun v i wr => ∃ k : Nat, k ≤ l.length ∧ i = .int .i64 k ∧ Own cellsStr 1 w.heap.size 9 wr v (putAllS ((l.take k).map keyB)) ∧ Below w.heap.size w wr) (fun _ i _ => l.length - (intOf i).toNat)
  case atStart => exact ⟨0, Nat.zero_le _, rfl, Own.nil, Below.refl _ _⟩
  case round =>
    obtain ⟨k, hk0, rfl, ho, hbw⟩ := hrel
    have htl : ((l.take k).map keyB).length ≤ k := by rw [List.length_map, List.length_take]; omega
    have hpal := putAllS_len ((l.take k).map keyB)
    by_cases hlt : k < l.length
    · obtain ⟨b, o, A3, c3, rfl, h1, d0, d1, d2, d3, d4, d5, hc3, hs3⟩ := (hs.mono hbw).fnd_at hlt
      have HS := Lib.hid (keys_snoc hlt)
      have HC := Lib.hid (refKey_any l[k] A3 l[k].path.length c3 wr (hk.out _ (List.getElem_mem hlt)))
      obtain ⟨x, hx⟩ : ∃ x, x = keyB l[k] := ⟨_, rfl⟩
      rw [← hx] at HS HC
      clear hx
      obtain ⟨L, HPL⟩ : ∃ L, Hid (L = putAllS ((l.take k).map keyB)) := ⟨_, Lib.hid rfl⟩
      rw [← HPL.out] at ho hpal
      obtain ⟨AT, cT, rfl, hcT, hsT⟩ := ho.sl (L := Lay.str) rfl (fun x => rfl)
      go_wp2_with fail
      refine HC.out.mono ?_
      rintro e w1 ⟨rfl, hb1⟩
      have ho := ho.mono hb1
      have hsT := hsT.mono hb1
      have hbw := below_step hbw hb1
      clear d0 d1 d2 d3 d4 d5 hs3 HC
      go_wp2_with fail
      obtain ⟨wo, hwo⟩ : ∃ wo : World, wo = w1 := ⟨_, rfl⟩
      rw [← hwo] at ho hsT hbw ⊢
      clear hwo hb1
      go_loop [6] (fun i => ∃ m : Nat, m ≤ L.length ∧ i = .int .i64 m ∧ Hid (∀ i (h : i < L.length), i < m → toL L[i] < toL x)) (fun i => L.length - (intOf i).toNat)
      case atStart => exact ⟨0, Nat.zero_le _, rfl, fun i h hi => by omega⟩
      case round =>
        obtain ⟨m, hm, rfl, HN⟩ := hrel
        by_cases hlm : m < L.length
        · obtain ⟨b1, o1, rfl, hb1, e0⟩ := hsT.str_at hlm
          have HBL := Lib.hid (bytesLess_toL L[m] x)
          by_cases hlx : toL L[m] < toL x
          · rw [decide_eq_true hlx] at HBL
            have t1 := HBL.out
            have HE : Hid (∀ i (h : i < L.length), i < m + 1 → toL L[i] < toL x) := fun i h hi => by
              by_cases e : i = m
              · subst e; exact hlx
              · exact HN.out i h (by omega)
            clear hlx HBL
            go_wp2_with fail
            go_round
            case rel => exact ⟨m + 1, by omega, by go_num, HE⟩
            case measure => simp [intOf]; omega
          · rw [decide_eq_false hlx] at HBL
            have t1 := HBL.out
            by_cases heq : L[m] = x
            · have t2 : (L[m].toList == x.toList) = true := by rw [heq]; simp
              have HPN : Hid (putS L x = L) := putS_same hlm HN.out heq
              clear hlx heq HBL
              have hnx : Own cellsStr 1 w.heap.size 9 wo (.slice (some ⟨b1, o1, none⟩) L.length cT) (putAllS ((l.take (k + 1)).map keyB)) := by rw [HS.out, putAllS_snoc, ← HPL.out, HPN.out]; exact ho
              go_wp2_with fail
              go_roundw
              case rel => exact ⟨k + 1, by omega, by go_num, hnx, hbw⟩
              case measure => simp [intOf]; omega
            have t2 : (L[m].toList == x.toList) = false := by
              rw [beq_eq_false_iff_ne]
              intro h
              rw [ByteArray.toList_eq, ByteArray.toList_eq] at h
              exact heq (toL_inj h)
            have HPN : Hid (putS L x = L.take m ++ [x] ++ L.drop m) := putS_new (by omega) HN.out (fun h => ⟨hlx, heq⟩)
            clear hlx heq HBL
            have htk : (L.take m).length = m := by rw [List.length_take]; omega
            have hst : Sl Lay.str wo (some ⟨b1, o1, none⟩) (L.take m) := takeS hsT m
            have hsd : Sl Lay.str wo (some ⟨b1, o1 + m, none⟩) (L.drop m) := dropS hsT m
            go_upto_region 10 with fail
            refine wp_region_RZ 13 (by kernel_rfl) (by kernel_rfl) ?_
            refine RZ.chunk (f := 6) [1, 2, 3, 5, 8, 9, 10] (by kernel_rfl) ?_
            ((simp only [pickOps, List.filterMap, List.getElem?_toArray, List.getElem?_cons_zero, List.getElem?_cons_succ]); (repeat (go_big_quiet_step (fail))); refine wpQuiet_nil ?_)
            refine RZ.both 0 6 rfl rfl (by kernel_rfl) (by omega) (by omega) ?_ ?_
            · intro K hK
              go_wp2_with fail
              refine hK _ _ (bw_alloc (Below.refl _ _)) ?_
              clear hK
              generalize hW : World.drew (World.alloc _ _) = W2
              have hb2 : Below wo.heap.size wo W2 := by rw [← hW]; exact (by repeat (first | assumption | exact Below.refl _ _ | apply bw_alloc | apply bw_drew | apply bw_drewN | apply bw_later | apply bw_step))
              have hz2 : wo.heap.size < W2.heap.size := by rw [← hW]; simp
              have ho2 : Own cellsStr 1 wo.heap.size 9 W2 (.slice (some ⟨wo.heap.size, 0, none⟩) 0 0) ([] : List ByteArray) := by
                rw [← hW]
                exact (Own.lit wo #[] [] (Nat.le_refl _) (by decide) rfl rfl).mono (bw_drew (Below.refl _ _))
              clear hW
              refine RZ.both 4 6 rfl rfl (by kernel_rfl) (by omega) (by omega) ?_ ?_
              · intro K hK
                obtain ⟨v4, w4, hrun4, ho4, hb4, hg4, hz4⟩ := run_pushAll (L := Lay.str) (c := cT) strsTy cellsStr_ok 38 ho2 (fun x vs h => h) rfl (hst.mono hb2) (by rw [htk]; simp [maxLen]; omega) (by rw [htk]; simp; omega) hb2.size
                rw [htk] at hrun4
                rw [List.nil_append] at ho4
                refine wpList_appendRunD 48 rfl rfl (.tmp 44) (.tmp 47) 38 rfl rfl rfl hrun4 ?_
                simp only [List.setIfInBounds_toArray, List.set_cons_succ, List.set_cons_zero]
                go_wp2_with fail
                have hbx4 : Below wo.heap.size wo w4 := hb2.trans hb4
                refine hK _ _ (below_undrewC hbx4) ?_
                clear hK
                refine RZ.single 6 rfl (by kernel_rfl) (by omega) ?_
                intro K hK
                go_wp2_with fail
                refine hK _ _ (below_undrewC (bw_alloc hbx4)) ?_
                clear hK
                have hxc := cells_one_new w4 (.string x) 9
                have hbx5 : Below wo.heap.size wo (w4.alloc (.cells #[.string x] 9)) := bw_alloc hbx4
                have ho5 := ho4.alloc (.cells #[.string x] 9)
                refine RZ.single 7 rfl (by kernel_rfl) (by omega) ?_
                intro K hK
                obtain ⟨v7, w7, hrun7, ho7, hb7, hg7, hz7⟩ := run_push strsTy cellsStr_ok 38 ho5 x w4.heap.size 1 hxc (by rw [htk]; simp [maxLen]; omega) (by rw [htk]; omega) hbx5.size
                refine wpList_appendRunD 51 rfl rfl (.tmp 48) (.tmp 50) 38 rfl rfl rfl hrun7 ?_
                simp only [List.setIfInBounds_toArray, List.set_cons_succ, List.set_cons_zero]
                go_wp2_with fail
                have hbx7 : Below wo.heap.size wo w7 := hbx5.trans hb7
                refine hK _ _ (below_undrewC hbx7) ?_
                clear hK
                refine RZ.single 11 rfl (by kernel_rfl) (by omega) ?_
                intro K hK
                obtain ⟨v8, w8, hrun8, ho8, hb8, hg8, hz8⟩ := run_pushAll (L := Lay.str) (c := cT - k) strsTy cellsStr_ok 38 ho7 (fun x vs h => h) rfl (hsd.mono hbx7) (by rw [List.length_append, htk, List.length_drop]; simp [maxLen]; omega) (by rw [List.length_append, htk, List.length_drop]; simp; omega) hbx7.size
                rw [List.length_drop] at hrun8
                refine wpList_appendRunD 55 rfl rfl (.tmp 51) (.tmp 54) 38 rfl rfl rfl hrun8 ?_
                simp only [List.setIfInBounds_toArray, List.set_cons_succ, List.set_cons_zero]
                go_wp2_with fail
                have hbx8 : Below wo.heap.size wo w8 := hbx7.trans hb8
                refine hK _ _ (below_undrewC hbx8) ?_
                clear hK
                refine RZ.chunk (f := 0) [12] (by kernel_rfl) ?_
                ((simp only [pickOps, List.filterMap, List.getElem?_toArray, List.getElem?_cons_zero, List.getElem?_cons_succ]); (repeat (go_big_quiet_step (fail))); refine wpQuiet_nil ?_)
                (refine RZ.done (by kernel_rfl) (by kernel_rfl) ?_)
                go_wp2_with fail
                have hnx := own_base ho8 hbw.size
                rw [← HPN.out, HPL.out, ← putAllS_snoc, ← HS.out] at hnx
                obtain ⟨A9, n9, c9, rfl⟩ := own_isSl ho8
                go_roundw
                case rel => exact ⟨k + 1, by omega, by go_num, hnx, below_step hbw hbx8⟩
                case measure => simp [intOf]; omega
              · intro K hK
                go_wp2_with fail
                refine hK _ _ (below_undrewC (bw_alloc hb2)) ?_
                clear hK
                have hb3 : Below wo.heap.size wo (W2.alloc (.cells #[.string x] 9)) := bw_alloc hb2
                have bx3 := Box.new W2 [.string x] 9
                refine RZ.single 4 rfl (by kernel_rfl) (by omega) ?_
                intro K hK
                obtain ⟨v4, w4, hrun4, ho4, hb4, hg4, hz4⟩ := run_pushAll (L := Lay.str) (c := cT) strsTy cellsStr_ok 38 (ho2.alloc (.cells #[.string x] 9)) (fun x vs h => h) rfl (hst.mono hb3) (by rw [htk]; simp [maxLen]; omega) (by rw [htk]; simp; omega) hb3.size
                rw [htk] at hrun4
                rw [List.nil_append] at ho4
                refine wpList_appendRunD 48 rfl rfl (.tmp 44) (.tmp 47) 38 rfl rfl rfl hrun4 ?_
                simp only [List.setIfInBounds_toArray, List.set_cons_succ, List.set_cons_zero]
                go_wp2_with fail
                have hbx4 : Below wo.heap.size wo w4 := hb3.trans hb4
                refine hK _ _ (below_undrewC hbx4) ?_
                clear hK
                have bx4 := bx3.grown hg4 (by simp [Value.ownBlock]; omega)
                have hxc : ∀ j u, (cellsStr x)[j]? = some u → w4.cell? ⟨W2.heap.size, j, none⟩ = some u := fun j u hj => bx4.cell j hj
                refine RZ.single 7 rfl (by kernel_rfl) (by omega) ?_
                intro K hK
                obtain ⟨v7, w7, hrun7, ho7, hb7, hg7, hz7⟩ := run_push strsTy cellsStr_ok 38 ho4 x W2.heap.size 1 hxc (by rw [htk]; simp [maxLen]; omega) (by rw [htk]; omega) hbx4.size
                refine wpList_appendRunD 51 rfl rfl (.tmp 48) (.tmp 50) 38 rfl rfl rfl hrun7 ?_
                simp only [List.setIfInBounds_toArray, List.set_cons_succ, List.set_cons_zero]
                go_wp2_with fail
                have hbx7 : Below wo.heap.size wo w7 := hbx4.trans hb7
                refine hK _ _ (below_undrewC hbx7) ?_
                clear hK
                refine RZ.single 11 rfl (by kernel_rfl) (by omega) ?_
                intro K hK
                obtain ⟨v8, w8, hrun8, ho8, hb8, hg8, hz8⟩ := run_pushAll (L := Lay.str) (c := cT - k) strsTy cellsStr_ok 38 ho7 (fun x vs h => h) rfl (hsd.mono hbx7) (by rw [List.length_append, htk, List.length_drop]; simp [maxLen]; omega) (by rw [List.length_append, htk, List.length_drop]; simp; omega) hbx7.size
                rw [List.length_drop] at hrun8
                refine wpList_appendRunD 55 rfl rfl (.tmp 51) (.tmp 54) 38 rfl rfl rfl hrun8 ?_
                simp only [List.setIfInBounds_toArray, List.set_cons_succ, List.set_cons_zero]
                go_wp2_with fail
                have hbx8 : Below wo.heap.size wo w8 := hbx7.trans hb8
                refine hK _ _ (below_undrewC hbx8) ?_
                clear hK
                refine RZ.chunk (f := 0) [12] (by kernel_rfl) ?_
                ((simp only [pickOps, List.filterMap, List.getElem?_toArray, List.getElem?_cons_zero, List.getElem?_cons_succ]); (repeat (go_big_quiet_step (fail))); refine wpQuiet_nil ?_)
                (refine RZ.done (by kernel_rfl) (by kernel_rfl) ?_)
                go_wp2_with fail
                have hnx := own_base ho8 hbw.size
                rw [← HPN.out, HPL.out, ← putAllS_snoc, ← HS.out] at hnx
                obtain ⟨A9, n9, c9, rfl⟩ := own_isSl ho8
                go_roundw
                case rel => exact ⟨k + 1, by omega, by go_num, hnx, below_step hbw hbx8⟩
                case measure => simp [intOf]; omega
            · intro K hK
              go_wp2_with fail
              refine hK _ _ (bw_alloc (Below.refl _ _)) ?_
              clear hK
              generalize hW : World.drew (World.alloc _ _) = W2
              have hb2 : Below wo.heap.size wo W2 := by rw [← hW]; exact (by repeat (first | assumption | exact Below.refl _ _ | apply bw_alloc | apply bw_drew | apply bw_drewN | apply bw_later | apply bw_step))
              have hz2 : wo.heap.size < W2.heap.size := by rw [← hW]; simp
              have bx2 : Box W2 wo.heap.size [.string x] 9 := by rw [← hW]; exact (Box.new _ _ _).drew
              clear hW
              refine RZ.single 0 rfl (by kernel_rfl) (by omega) ?_
              intro K hK
              go_wp2_with fail
              refine hK _ _ (below_undrewC (bw_alloc hb2)) ?_
              clear hK
              have hb3 : Below wo.heap.size wo (W2.alloc (.cells #[] 9)) := bw_alloc hb2
              have ho3 : Own cellsStr 1 wo.heap.size 9 (W2.alloc (.cells #[] 9)) (.slice (some ⟨W2.heap.size, 0, none⟩) 0 0) ([] : List ByteArray) := Own.lit W2 #[] [] hb2.size (by decide) rfl rfl
              refine RZ.single 4 rfl (by kernel_rfl) (by omega) ?_
              intro K hK
              obtain ⟨v4, w4, hrun4, ho4, hb4, hg4, hz4⟩ := run_pushAll (L := Lay.str) (c := cT) strsTy cellsStr_ok 38 ho3 (fun x vs h => h) rfl (hst.mono hb3) (by rw [htk]; simp [maxLen]; omega) (by rw [htk]; simp; omega) hb3.size
              rw [htk] at hrun4
              rw [List.nil_append] at ho4
              refine wpList_appendRunD 48 rfl rfl (.tmp 44) (.tmp 47) 38 rfl rfl rfl hrun4 ?_
              simp only [List.setIfInBounds_toArray, List.set_cons_succ, List.set_cons_zero]
              go_wp2_with fail
              have hbx4 : Below wo.heap.size wo w4 := hb3.trans hb4
              refine hK _ _ (below_undrewC hbx4) ?_
              clear hK
              have bx4 := (bx2.alloc (.cells #[] 9)).grown hg4 (by simp [Value.ownBlock]; omega)
              have hxc : ∀ j u, (cellsStr x)[j]? = some u → w4.cell? ⟨wo.heap.size, j, none⟩ = some u := fun j u hj => bx4.cell j hj
              refine RZ.single 7 rfl (by kernel_rfl) (by omega) ?_
              intro K hK
              obtain ⟨v7, w7, hrun7, ho7, hb7, hg7, hz7⟩ := run_push strsTy cellsStr_ok 38 ho4 x wo.heap.size 1 hxc (by rw [htk]; simp [maxLen]; omega) (by rw [htk]; omega) hbx4.size
              refine wpList_appendRunD 51 rfl rfl (.tmp 48) (.tmp 50) 38 rfl rfl rfl hrun7 ?_
              simp only [List.setIfInBounds_toArray, List.set_cons_succ, List.set_cons_zero]
              go_wp2_with fail
              have hbx7 : Below wo.heap.size wo w7 := hbx4.trans hb7
              refine hK _ _ (below_undrewC hbx7) ?_
              clear hK
              refine RZ.single 11 rfl (by kernel_rfl) (by omega) ?_
              intro K hK
              obtain ⟨v8, w8, hrun8, ho8, hb8, hg8, hz8⟩ := run_pushAll (L := Lay.str) (c := cT - k) strsTy cellsStr_ok 38 ho7 (fun x vs h => h) rfl (hsd.mono hbx7) (by rw [List.length_append, htk, List.length_drop]; simp [maxLen]; omega) (by rw [List.length_append, htk, List.length_drop]; simp; omega) hbx7.size
              rw [List.length_drop] at hrun8
              refine wpList_appendRunD 55 rfl rfl (.tmp 51) (.tmp 54) 38 rfl rfl rfl hrun8 ?_
              simp only [List.setIfInBounds_toArray, List.set_cons_succ, List.set_cons_zero]
              go_wp2_with fail
              have hbx8 : Below wo.heap.size wo w8 := hbx7.trans hb8
              refine hK _ _ (below_undrewC hbx8) ?_
              clear hK
              refine RZ.chunk (f := 0) [12] (by kernel_rfl) ?_
              ((simp only [pickOps, List.filterMap, List.getElem?_toArray, List.getElem?_cons_zero, List.getElem?_cons_succ]); (repeat (go_big_quiet_step (fail))); refine wpQuiet_nil ?_)
              (refine RZ.done (by kernel_rfl) (by kernel_rfl) ?_)
              go_wp2_with fail
              have hnx := own_base ho8 hbw.size
              rw [← HPN.out, HPL.out, ← putAllS_snoc, ← HS.out] at hnx
              obtain ⟨A9, n9, c9, rfl⟩ := own_isSl ho8
              go_roundw
              case rel => exact ⟨k + 1, by omega, by go_num, hnx, below_step hbw hbx8⟩
              case measure => simp [intOf]; omega

        · obtain rfl : m = L.length := by omega
          have HPN : Hid (putS L x = L.take L.length ++ [x] ++ []) := by
            have := putS_new (Nat.le_refl _) HN.out (fun h => by omega)
            rw [List.drop_length] at this
            exact this
          have htk : (L.take L.length).length = L.length := by rw [List.take_length]
          have hst : Sl Lay.str wo AT (L.take L.length) := takeS hsT _
          go_upto_region 10 with fail
          refine wp_region_RZ 13 (by kernel_rfl) (by kernel_rfl) ?_
          refine RZ.chunk (f := 6) [1, 2, 3, 5, 8, 9, 10] (by kernel_rfl) ?_
          ((simp only [pickOps, List.filterMap, List.getElem?_toArray, List.getElem?_cons_zero, List.getElem?_cons_succ]); (repeat (go_big_quiet_step (fail))); refine wpQuiet_nil ?_)
          generalize (if cT = L.length then AT else Option.map (fun x => x.add L.length) AT) = A43
          refine RZ.both 0 6 rfl rfl (by kernel_rfl) (by omega) (by omega) ?_ ?_
          · intro K hK
            go_wp2_with fail
            refine hK _ _ (bw_alloc (Below.refl _ _)) ?_
            clear hK
            generalize hW : World.drew (World.alloc _ _) = W2
            have hb2 : Below wo.heap.size wo W2 := by rw [← hW]; exact (by repeat (first | assumption | exact Below.refl _ _ | apply bw_alloc | apply bw_drew | apply bw_drewN | apply bw_later | apply bw_step))
            have hz2 : wo.heap.size < W2.heap.size := by rw [← hW]; simp
            have ho2 : Own cellsStr 1 wo.heap.size 9 W2 (.slice (some ⟨wo.heap.size, 0, none⟩) 0 0) ([] : List ByteArray) := by
              rw [← hW]
              exact (Own.lit wo #[] [] (Nat.le_refl _) (by decide) rfl rfl).mono (bw_drew (Below.refl _ _))
            clear hW
            refine RZ.both 4 6 rfl rfl (by kernel_rfl) (by omega) (by omega) ?_ ?_
            · intro K hK
              obtain ⟨v4, w4, hrun4, ho4, hb4, hg4, hz4⟩ := run_pushAll (L := Lay.str) (c := cT) strsTy cellsStr_ok 38 ho2 (fun x vs h => h) rfl (hst.mono hb2) (by rw [htk]; simp [maxLen]; omega) (by rw [htk]; simp; omega) hb2.size
              rw [htk] at hrun4
              rw [List.nil_append] at ho4
              refine wpList_appendRunD 48 rfl rfl (.tmp 44) (.tmp 47) 38 rfl rfl rfl hrun4 ?_
              simp only [List.setIfInBounds_toArray, List.set_cons_succ, List.set_cons_zero]
              go_wp2_with fail
              have hbx4 : Below wo.heap.size wo w4 := hb2.trans hb4
              refine hK _ _ (below_undrewC hbx4) ?_
              clear hK
              refine RZ.single 6 rfl (by kernel_rfl) (by omega) ?_
              intro K hK
              go_wp2_with fail
              refine hK _ _ (below_undrewC (bw_alloc hbx4)) ?_
              clear hK
              have hxc := cells_one_new w4 (.string x) 9
              have hbx5 : Below wo.heap.size wo (w4.alloc (.cells #[.string x] 9)) := bw_alloc hbx4
              have ho5 := ho4.alloc (.cells #[.string x] 9)
              refine RZ.single 7 rfl (by kernel_rfl) (by omega) ?_
              intro K hK
              obtain ⟨v7, w7, hrun7, ho7, hb7, hg7, hz7⟩ := run_push strsTy cellsStr_ok 38 ho5 x w4.heap.size 1 hxc (by rw [htk]; simp [maxLen]; omega) (by rw [htk]; omega) hbx5.size
              refine wpList_appendRunD 51 rfl rfl (.tmp 48) (.tmp 50) 38 rfl rfl rfl hrun7 ?_
              simp only [List.setIfInBounds_toArray, List.set_cons_succ, List.set_cons_zero]
              go_wp2_with fail
              have hbx7 : Below wo.heap.size wo w7 := hbx5.trans hb7
              refine hK _ _ (below_undrewC hbx7) ?_
              clear hK
              refine RZ.single 11 rfl (by kernel_rfl) (by omega) ?_
              intro K hK
              obtain ⟨v8, w8, hrun8, ho8, hb8, hg8, hz8⟩ := run_pushAll (L := Lay.str) (c := cT - L.length) strsTy cellsStr_ok 38 ho7 (fun x vs h => h) rfl (Sl.nil : Sl Lay.str w7 A43 []) (by rw [List.length_append, htk]; simp [maxLen]; omega) (by rw [List.length_append, htk]; simp; omega) hbx7.size
              rw [List.length_nil] at hrun8
              refine wpList_appendRunD 55 rfl rfl (.tmp 51) (.tmp 54) 38 rfl rfl rfl hrun8 ?_
              simp only [List.setIfInBounds_toArray, List.set_cons_succ, List.set_cons_zero]
              go_wp2_with fail
              have hbx8 : Below wo.heap.size wo w8 := hbx7.trans hb8
              refine hK _ _ (below_undrewC hbx8) ?_
              clear hK
              refine RZ.chunk (f := 0) [12] (by kernel_rfl) ?_
              ((simp only [pickOps, List.filterMap, List.getElem?_toArray, List.getElem?_cons_zero, List.getElem?_cons_succ]); (repeat (go_big_quiet_step (fail))); refine wpQuiet_nil ?_)
              (refine RZ.done (by kernel_rfl) (by kernel_rfl) ?_)
              go_wp2_with fail
              have hnx := own_base ho8 hbw.size
              rw [← HPN.out, HPL.out, ← putAllS_snoc, ← HS.out] at hnx
              obtain ⟨A9, n9, c9, rfl⟩ := own_isSl ho8
              go_roundw
              case rel => exact ⟨k + 1, by omega, by go_num, hnx, below_step hbw hbx8⟩
              case measure => simp [intOf]; omega
            · intro K hK
              go_wp2_with fail
              refine hK _ _ (below_undrewC (bw_alloc hb2)) ?_
              clear hK
              have hb3 : Below wo.heap.size wo (W2.alloc (.cells #[.string x] 9)) := bw_alloc hb2
              have bx3 := Box.new W2 [.string x] 9
              refine RZ.single 4 rfl (by kernel_rfl) (by omega) ?_
              intro K hK
              obtain ⟨v4, w4, hrun4, ho4, hb4, hg4, hz4⟩ := run_pushAll (L := Lay.str) (c := cT) strsTy cellsStr_ok 38 (ho2.alloc (.cells #[.string x] 9)) (fun x vs h => h) rfl (hst.mono hb3) (by rw [htk]; simp [maxLen]; omega) (by rw [htk]; simp; omega) hb3.size
              rw [htk] at hrun4
              rw [List.nil_append] at ho4
              refine wpList_appendRunD 48 rfl rfl (.tmp 44) (.tmp 47) 38 rfl rfl rfl hrun4 ?_
              simp only [List.setIfInBounds_toArray, List.set_cons_succ, List.set_cons_zero]
              go_wp2_with fail
              have hbx4 : Below wo.heap.size wo w4 := hb3.trans hb4
              refine hK _ _ (below_undrewC hbx4) ?_
              clear hK
              have bx4 := bx3.grown hg4 (by simp [Value.ownBlock]; omega)
              have hxc : ∀ j u, (cellsStr x)[j]? = some u → w4.cell? ⟨W2.heap.size, j, none⟩ = some u := fun j u hj => bx4.cell j hj
              refine RZ.single 7 rfl (by kernel_rfl) (by omega) ?_
              intro K hK
              obtain ⟨v7, w7, hrun7, ho7, hb7, hg7, hz7⟩ := run_push strsTy cellsStr_ok 38 ho4 x W2.heap.size 1 hxc (by rw [htk]; simp [maxLen]; omega) (by rw [htk]; omega) hbx4.size
              refine wpList_appendRunD 51 rfl rfl (.tmp 48) (.tmp 50) 38 rfl rfl rfl hrun7 ?_
              simp only [List.setIfInBounds_toArray, List.set_cons_succ, List.set_cons_zero]
              go_wp2_with fail
              have hbx7 : Below wo.heap.size wo w7 := hbx4.trans hb7
              refine hK _ _ (below_undrewC hbx7) ?_
              clear hK
              refine RZ.single 11 rfl (by kernel_rfl) (by omega) ?_
              intro K hK
              obtain ⟨v8, w8, hrun8, ho8, hb8, hg8, hz8⟩ := run_pushAll (L := Lay.str) (c := cT - L.length) strsTy cellsStr_ok 38 ho7 (fun x vs h => h) rfl (Sl.nil : Sl Lay.str w7 A43 []) (by rw [List.length_append, htk]; simp [maxLen]; omega) (by rw [List.length_append, htk]; simp; omega) hbx7.size
              rw [List.length_nil] at hrun8
              refine wpList_appendRunD 55 rfl rfl (.tmp 51) (.tmp 54) 38 rfl rfl rfl hrun8 ?_
              simp only [List.setIfInBounds_toArray, List.set_cons_succ, List.set_cons_zero]
              go_wp2_with fail
              have hbx8 : Below wo.heap.size wo w8 := hbx7.trans hb8
              refine hK _ _ (below_undrewC hbx8) ?_
              clear hK
              refine RZ.chunk (f := 0) [12] (by kernel_rfl) ?_
              ((simp only [pickOps, List.filterMap, List.getElem?_toArray, List.getElem?_cons_zero, List.getElem?_cons_succ]); (repeat (go_big_quiet_step (fail))); refine wpQuiet_nil ?_)
              (refine RZ.done (by kernel_rfl) (by kernel_rfl) ?_)
              go_wp2_with fail
              have hnx := own_base ho8 hbw.size
              rw [← HPN.out, HPL.out, ← putAllS_snoc, ← HS.out] at hnx
              obtain ⟨A9, n9, c9, rfl⟩ := own_isSl ho8
              go_roundw
              case rel => exact ⟨k + 1, by omega, by go_num, hnx, below_step hbw hbx8⟩
              case measure => simp [intOf]; omega
          · intro K hK
            go_wp2_with fail
            refine hK _ _ (bw_alloc (Below.refl _ _)) ?_
            clear hK
            generalize hW : World.drew (World.alloc _ _) = W2
            have hb2 : Below wo.heap.size wo W2 := by rw [← hW]; exact (by repeat (first | assumption | exact Below.refl _ _ | apply bw_alloc | apply bw_drew | apply bw_drewN | apply bw_later | apply bw_step))
            have hz2 : wo.heap.size < W2.heap.size := by rw [← hW]; simp
            have bx2 : Box W2 wo.heap.size [.string x] 9 := by rw [← hW]; exact (Box.new _ _ _).drew
            clear hW
            refine RZ.single 0 rfl (by kernel_rfl) (by omega) ?_
            intro K hK
            go_wp2_with fail
            refine hK _ _ (below_undrewC (bw_alloc hb2)) ?_
            clear hK
            have hb3 : Below wo.heap.size wo (W2.alloc (.cells #[] 9)) := bw_alloc hb2
            have ho3 : Own cellsStr 1 wo.heap.size 9 (W2.alloc (.cells #[] 9)) (.slice (some ⟨W2.heap.size, 0, none⟩) 0 0) ([] : List ByteArray) := Own.lit W2 #[] [] hb2.size (by decide) rfl rfl
            refine RZ.single 4 rfl (by kernel_rfl) (by omega) ?_
            intro K hK
            obtain ⟨v4, w4, hrun4, ho4, hb4, hg4, hz4⟩ := run_pushAll (L := Lay.str) (c := cT) strsTy cellsStr_ok 38 ho3 (fun x vs h => h) rfl (hst.mono hb3) (by rw [htk]; simp [maxLen]; omega) (by rw [htk]; simp; omega) hb3.size
            rw [htk] at hrun4
            rw [List.nil_append] at ho4
            refine wpList_appendRunD 48 rfl rfl (.tmp 44) (.tmp 47) 38 rfl rfl rfl hrun4 ?_
            simp only [List.setIfInBounds_toArray, List.set_cons_succ, List.set_cons_zero]
            go_wp2_with fail
            have hbx4 : Below wo.heap.size wo w4 := hb3.trans hb4
            refine hK _ _ (below_undrewC hbx4) ?_
            clear hK
            have bx4 := (bx2.alloc (.cells #[] 9)).grown hg4 (by simp [Value.ownBlock]; omega)
            have hxc : ∀ j u, (cellsStr x)[j]? = some u → w4.cell? ⟨wo.heap.size, j, none⟩ = some u := fun j u hj => bx4.cell j hj
            refine RZ.single 7 rfl (by kernel_rfl) (by omega) ?_
            intro K hK
            obtain ⟨v7, w7, hrun7, ho7, hb7, hg7, hz7⟩ := run_push strsTy cellsStr_ok 38 ho4 x wo.heap.size 1 hxc (by rw [htk]; simp [maxLen]; omega) (by rw [htk]; omega) hbx4.size
            refine wpList_appendRunD 51 rfl rfl (.tmp 48) (.tmp 50) 38 rfl rfl rfl hrun7 ?_
            simp only [List.setIfInBounds_toArray, List.set_cons_succ, List.set_cons_zero]
            go_wp2_with fail
            have hbx7 : Below wo.heap.size wo w7 := hbx4.trans hb7
            refine hK _ _ (below_undrewC hbx7) ?_
            clear hK
            refine RZ.single 11 rfl (by kernel_rfl) (by omega) ?_
            intro K hK
            obtain ⟨v8, w8, hrun8, ho8, hb8, hg8, hz8⟩ := run_pushAll (L := Lay.str) (c := cT - L.length) strsTy cellsStr_ok 38 ho7 (fun x vs h => h) rfl (Sl.nil : Sl Lay.str w7 A43 []) (by rw [List.length_append, htk]; simp [maxLen]; omega) (by rw [List.length_append, htk]; simp; omega) hbx7.size
            rw [List.length_nil] at hrun8
            refine wpList_appendRunD 55 rfl rfl (.tmp 51) (.tmp 54) 38 rfl rfl rfl hrun8 ?_
            simp only [List.setIfInBounds_toArray, List.set_cons_succ, List.set_cons_zero]
            go_wp2_with fail
            have hbx8 : Below wo.heap.size wo w8 := hbx7.trans hb8
            refine hK _ _ (below_undrewC hbx8) ?_
            clear hK
            refine RZ.chunk (f := 0) [12] (by kernel_rfl) ?_
            ((simp only [pickOps, List.filterMap, List.getElem?_toArray, List.getElem?_cons_zero, List.getElem?_cons_succ]); (repeat (go_big_quiet_step (fail))); refine wpQuiet_nil ?_)
            (refine RZ.done (by kernel_rfl) (by kernel_rfl) ?_)
            go_wp2_with fail
            have hnx := own_base ho8 hbw.size
            rw [← HPN.out, HPL.out, ← putAllS_snoc, ← HS.out] at hnx
            obtain ⟨A9, n9, c9, rfl⟩ := own_isSl ho8
            go_roundw
            case rel => exact ⟨k + 1, by omega, by go_num, hnx, below_step hbw hbx8⟩
            case measure => simp [intOf]; omega

    · obtain rfl : k = l.length := by omega
      rw [List.take_length] at ho
      go_wp2_with fail
      go_ret
      exact ⟨⟨_, rfl, ho⟩, hbw⟩
end Go.Proofs.YtlcdnkloijehjaaGreatDoor
