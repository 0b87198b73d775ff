/-
  Chapter 10: what Check finds of a method (one way).
-/
import Derived.Test.YtafincpkehlcfaaDoorHierL
namespace Go.Proofs.YtafincpkehlcfaaDoor
open Go.RowKit
set_option linter.unusedVariables false

def mths (cs : List Cls) (j : Int) : List Sg := match cs[j.toNat]? with
  | some x => x.methods
  | none => []
theorem mths_nat {cs : List Cls} {j : Nat} (hj : j < cs.length) : mths cs j = cs[j].methods := by unfold mths; rw [Int.toNat_natCast, List.getElem?_eq_getElem hj]
def MethOk (cs : List Cls) (T : List Int) (m : Sg) : Prop := ∀ j ∈ T, ∀ o ∈ mths cs j, o.name = m.name → Over m o

set_option maxRecDepth 100000 in
set_option maxHeartbeats 4000000 in
theorem tMethod_some (A : Option Addr) (c b bL oL cL : Nat) (cs : List Cls) (i k : Nat) (T : List Int) (w : World) (hl : cs.length ≤ 1000) (hi : i < cs.length) (hk : k < cs[i].methods.length) (hcL : T.length + 1 ≤ cL) (hTl : T.length ≤ 1000)
    (hTb : Hid (∀ x ∈ T, 0 ≤ x ∧ x < (cs.length : Int))) (hsL : Sl Lay.int w (some ⟨bL, oL, none⟩) ((i : Int) :: T)) (hT : TabV w A c b cs) (hok : Hid (StrOk cs)) (hlk : Hid (LensOk cs)) (hkw : KwAt w) :
    Calls Tryd.prog 39 #[.agg #[.slice A cs.length c, .map (some b)], .slice (some ⟨bL, oL, none⟩) (T.length + 1) cL, .int .i64 k] w (ErrR (MethOk cs T cs[i].methods[k]) w) := by
  have hfl := (hlk.out _ (List.getElem_mem hi)).2.1
  have hpl := (hlk.out _ (List.getElem_mem hi)).2.2 _ (List.getElem_mem hk)
  obtain ⟨b0, o0, A2, c2, A3, c3, rfl, hb0, d0, d1, d2, d3, hc2, hs2, hc3, hs3⟩ := hT.sl.cls_at hi
  obtain ⟨b2, o2, Ap, cp, rfl, hb2, f0, f1, f2, f3, hcp, hsp⟩ := hs3.sg_at hk
  obtain ⟨bx, ox, ex, hbx0, dL0⟩ := hsL.int_at (i := 0) (by simp)
  simp only [Option.some.injEq, Addr.mk.injEq] at ex
  obtain ⟨rfl, rfl, _⟩ := ex
  have dL0' : w.cell? ⟨bL, oL, none⟩ = some (.int .i64 i) := dL0
  clear dL0
  have ho := (hok.out _ (List.getElem_mem hi)).2.2 _ (List.getElem_mem hk)
  have HOP := Lib.hid ho.2.2
  obtain ⟨ho1, ho2, _⟩ := ho
  go_enter Tryd.func39, Tryd.ntmps39
  go_wp2_with fail
  refine wp_region_RW 8 (by kernel_rfl) (by kernel_rfl) ?_
  refine RW.chunk (f := 1) [0, 1, 2, 3, 4, 5, 6] (by kernel_rfl) ?_
  ((simp only [pickOps, List.filterMap, List.getElem?_toArray, List.getElem?_cons_zero, List.getElem?_cons_succ]); (repeat (go_big_quiet_step (fail))); refine wpQuiet_nil ?_)
  refine RW.single 7 rfl (by kernel_rfl) (by omega) ?_
  intro K hK
  go_wp2_with fail
  refine hK _ _ (bw_alloc (Below.refl _ _)) ?_
  clear hK
  (refine RW.tail (by kernel_rfl) ?_; (simp only [List.drop_succ_cons, List.drop_zero]))
  go_wp2_with fail
  generalize hW : World.drew _ = W1
  have hb1 : Below w.heap.size w W1 := by rw [← hW]; exact (by repeat (first | assumption | exact Below.refl _ _ | apply bw_alloc | apply bw_drew | apply bw_drewN | apply bw_later | apply bw_step))
  have bt : Box W1 w.heap.size [.slice (some ⟨b0, o0, none⟩) cs.length c, .map (some b)] 51 := by rw [← hW]; exact (by repeat (first | (refine Box.at ?_; (simp; done)) | apply Box.drew | apply Box.alloc | assumption))
  have bc : Box W1 (w.heap.size + 1) [.string cs[i].name, .string cs[i].super, .slice A2 cs[i].fields.length c2, .slice (some ⟨b2, o2, none⟩) cs[i].methods.length c3] 32 := by rw [← hW]; exact (by repeat (first | (refine Box.at ?_; (simp; done)) | apply Box.drew | apply Box.alloc | assumption))
  have bf : Box W1 (w.heap.size + 1 + 1) [.string cs[i].methods[k].name, .bool cs[i].methods[k].static, .slice Ap cs[i].methods[k].params.length cp, .string cs[i].methods[k].result] 37 := by rw [← hW]; exact (by repeat (first | (refine Box.at ?_; (simp; done)) | apply Box.drew | apply Box.alloc | assumption))
  clear hW d0 d1 d2 d3 f0 f1 f2 f3 dL0' hbx0
  refine (ident_some cs[i].methods[k].name _ ho1 (hkw.mono hb1)).mono ?_
  rintro e w1 ⟨bI, rfl, rfl, hne⟩
  clear hne
  cases bI with
  | false =>
    go_wp2_with fail
    go_ret
    exact ⟨_, rfl, hb1, fun h => by cases h⟩
  | true =>
  have p0 := bc.cell 0 rfl
  have p1 := bc.cell 1 rfl
  have p2 := bc.cell 2 rfl
  have p3 := bc.cell 3 rfl
  have pl := bc.lt
  have g0 := bf.cell 0 rfl
  have gl := bf.lt
  go_wp2_with fail
  refine (methodIn_any cs[i] A2 _ c2 c3 cs[i].methods[k].name _ (by omega) (hs3.mono hb1)).mono ?_
  rintro e w3 ⟨rfl, hb3⟩
  have hbw3 := below_step hb1 hb3
  have bt3 := bt.mono hb3
  have bf3 := bf.mono hb3
  clear p0 p1 p2 p3 pl g0 gl bt bc bf hb3 hb1
  by_cases hlt : idxI (isSg cs[i].methods[k].name) cs[i].methods < k
  · go_wp2_with fail
    go_ret
    exact ⟨_, rfl, hbw3, fun h => by cases h⟩
  have g2 := bf3.cell 2 rfl
  have gl := bf3.lt
  by_cases h6 : 6 < cs[i].methods[k].params.length
  · go_wp2_with fail
    go_ret
    exact ⟨_, rfl, hbw3, fun h => by cases h⟩
  go_wp2_with fail
  go_loopw [44] (fun v wr => ∃ q : Nat, q ≤ cs[i].methods[k].params.length ∧ v = .int .i64 q ∧ Below w3.heap.size w3 wr) (fun v _ => cs[i].methods[k].params.length - (intOf v).toNat)
  case atStart => exact ⟨0, Nat.zero_le _, rfl, Below.refl _ _⟩
  case round =>
    clear g2 gl
    obtain ⟨q, hq, rfl, hbw⟩ := hrel
    have bt4 := bt3.mono hbw
    have bf4 := bf3.mono hbw
    have hbw4 := below_step hbw3 hbw
    have t0 := bt4.cell 0 rfl
    have t1 := bt4.cell 1 rfl
    have tl := bt4.lt
    by_cases hqt : q < cs[i].methods[k].params.length
    · obtain ⟨bq, oq, rfl, hbq, dq⟩ := (hsp.mono hbw4).str_at hqt
      have hoq := HOP.out _ (List.getElem_mem hqt)
      go_wp2_with fail
      refine (isType_some _ c b cs cs[i].methods[k].params[q] _ (hT.mono hbw4) hoq).mono ?_
      rintro e w5 ⟨bY, rfl, hb5⟩
      cases bY with
      | false =>
        go_wp2_with fail
        go_ret
        exact ⟨_, rfl, below_step hbw4 hb5, fun h => by cases h⟩
      | true =>
        go_wp2_with fail
        go_roundw
        case rel => exact ⟨q + 1, by omega, by go_num, below_step hbw hb5⟩
        case measure => simp [intOf]; omega
    · have g3 := bf4.cell 3 rfl
      have gl := bf4.lt
      cases hre : cs[i].methods[k].result.toList.isEmpty with
      | true =>
        obtain ⟨w5, rfl⟩ : ∃ w5 : World, w5 = wr := ⟨_, rfl⟩
        have hbw5 := hbw4
        have bt5 := bt4
        have bf5 := bf4
        rcases Classical.em (cL = 1) with hc1 | hc1
        all_goals
          go_wp2_with fail
          go_loopw [66] (fun v wr => ∃ q : Nat, q ≤ T.length ∧ v = .int .i64 q ∧ MethOk cs (T.take q) cs[i].methods[k] ∧ Below w5.heap.size w5 wr) (fun v _ => T.length - (intOf v).toNat)
          case atStart => exact ⟨0, Nat.zero_le _, rfl, fun j hj => by simp at hj, Below.refl _ _⟩
          case round =>
            obtain ⟨q, hq, rfl, HN0, hbw⟩ := hrel
            have HN := Lib.hid HN0
            clear HN0
            have bt6 := bt5.mono hbw
            have bf6 := bf5.mono hbw
            have hbw6 := below_step hbw5 hbw
            have t0 := bt6.cell 0 rfl
            have tl := bt6.lt
            by_cases hqt : q < T.length
            · first
              | (exfalso; omega)
              | (obtain ⟨hbq, dq⟩ := tailI (hsL.mono hbw6) hqt
                 have hjb := hTb.out T[q] (List.getElem_mem hqt)
                 obtain ⟨j, hjj⟩ : ∃ j : Nat, T[q] = j := ⟨T[q].toNat, by omega⟩
                 have HJ := Lib.hid hjj
                 rw [hjj] at dq hjb
                 clear hjj
                 have hjl : j < cs.length := by omega
                 have hml := (hlk.out _ (List.getElem_mem hjl)).2.1
                 have HPL := Lib.hid (hlk.out _ (List.getElem_mem hjl)).2.2
                 obtain ⟨b7, o7, A7, c7, A8, c8, e7, hb7, k0, k1, k2, k3, hc7, hs7, hc8, hs8⟩ := hT.sl.cls_at hjl
                 simp only [Option.some.injEq, Addr.mk.injEq] at e7
                 obtain ⟨rfl, rfl, _⟩ := e7
                 have k3' := keptC k3 hb7 hbw6
                 clear k0 k1 k2 k3
                 go_wp2_with fail
                 clear k3' dq t0 tl
                 obtain ⟨wo, rfl⟩ : ∃ wo : World, wo = wr := ⟨_, rfl⟩
                 go_loopw [77] (fun v wr => ∃ z : Nat, z ≤ cs[j].methods.length ∧ v = .int .i64 z ∧ (∀ y (hy : y < z) (hy2 : y < cs[j].methods.length), cs[j].methods[y].name = cs[i].methods[k].name → Over cs[i].methods[k] cs[j].methods[y]) ∧ Below wo.heap.size wo wr) (fun v _ => cs[j].methods.length - (intOf v).toNat)
                 case atStart => exact ⟨0, Nat.zero_le _, rfl, fun y hy => by omega, Below.refl _ _⟩
                 case round =>
                   obtain ⟨z, hz, rfl, HM0, hbv⟩ := hrel
                   have HM := Lib.hid HM0
                   clear HM0
                   have hbw7 := below_step hbw6 hbv
                   have bf7 := bf6.mono hbv
                   have g0 := bf7.cell 0 rfl
                   have g1 := bf7.cell 1 rfl
                   have g2 := bf7.cell 2 rfl
                   have g3 := bf7.cell 3 rfl
                   have gl := bf7.lt
                   by_cases hzt : z < cs[j].methods.length
                   · obtain ⟨b9, o9, A9, c9, e9, hb9, s0, s1, s2, s3, hc9, hs9⟩ := hs8.sg_at hzt
                     subst e9
                     have s0' := keptC s0 hb9 hbw7
                     have s1' := keptC s1 hb9 hbw7
                     have s2' := keptC s2 hb9 hbw7
                     have s3' := keptC s3 hb9 hbw7
                     clear s0 s1 s2 s3
                     have hpl9 := HPL.out _ (List.getElem_mem hzt)
                     have hb10 : Below wr.heap.size wr (wr.alloc (.cells #[.string cs[j].methods[z].name, .bool cs[j].methods[z].static, .slice A9 cs[j].methods[z].params.length c9, .string cs[j].methods[z].result] 37)) := (by repeat (first | assumption | exact Below.refl _ _ | apply bw_alloc | apply bw_drew | apply bw_drewN | apply bw_later | apply bw_step))
                     cases hnm : (cs[j].methods[z].name.toList == cs[i].methods[k].name.toList) with
                     | true =>
                       go_wp2_with fail
                       refine (overrides_some cs[i].methods[k] cs[j].methods[z] Ap A9 cp c9 _ hpl hpl9 (hsp.mono (below_step hbw7 hb10)) (hs9.mono (below_step hbw7 hb10))).mono ?_
                       rintro e w8 ⟨bO, rfl, hb8, hO⟩
                       have HO := Lib.hid hO
                       clear hO
                       cases bO with
                       | false =>
                         go_wp2_with fail
                         go_ret
                         exact ⟨_, rfl, below_step hbw7 (below_step hb10 hb8), fun h => by cases h⟩
                       | true =>
                         have HM2 : Hid (∀ y (hy : y < z + 1) (hy2 : y < cs[j].methods.length), cs[j].methods[y].name = cs[i].methods[k].name → Over cs[i].methods[k] cs[j].methods[y]) := fun y hy hy2 h => by
                           by_cases ez : y = z
                           · subst ez; exact HO.out rfl
                           · exact HM.out y (by omega) hy2 h
                         clear hnm
                         go_wp2_with fail
                         go_roundw
                         case rel => exact ⟨z + 1, by omega, by go_num, HM2.out, below_step hbv (below_step hb10 hb8)⟩
                         case measure => simp [intOf]; omega
                     | false =>
                       have HM2 : Hid (∀ y (hy : y < z + 1) (hy2 : y < cs[j].methods.length), cs[j].methods[y].name = cs[i].methods[k].name → Over cs[i].methods[k] cs[j].methods[y]) := fun y hy hy2 h => by
                         by_cases ez : y = z
                         · subst ez
                           rw [eqS_iff.2 h] at hnm
                           cases hnm
                         · exact HM.out y (by omega) hy2 h
                       go_wp2_with fail
                       go_roundw
                       case rel => exact ⟨z + 1, by omega, by go_num, HM2.out, below_step hbv hb10⟩
                       case measure => simp [intOf]; omega
                   · have HX : Hid (MethOk cs (T.take (q + 1)) cs[i].methods[k]) := fun x hx o ho h => by
                       rw [List.take_succ_eq_append_getElem hqt] at hx
                       rcases List.mem_append.1 hx with hx | hx
                       · exact HN.out x hx o ho h
                       · simp at hx
                         rw [hx, HJ.out, mths_nat hjl] at ho
                         obtain ⟨y, hy, rfl⟩ := List.getElem_of_mem ho
                         exact HM.out y (by omega) hy h
                     go_wp2_with fail
                     go_roundw
                     case rel => exact ⟨q + 1, by omega, by go_num, HX.out, below_step hbw hbv⟩
                     case measure => simp [intOf]; omega)
            · have HX : Hid (MethOk cs T cs[i].methods[k]) := by
                have := HN.out
                rw [List.take_of_length_le (by omega)] at this
                exact this
              go_wp2_with fail
              go_ret
              exact ⟨_, rfl, hbw6, fun _ => HX.out⟩
      | false =>
        go_wp2_with fail
        refine (isType_some _ c b cs cs[i].methods[k].result _ (hT.mono hbw4) ho2).mono ?_
        rintro e w5 ⟨bY, rfl, hb5⟩
        have hbw5 := below_step hbw4 hb5
        have bt5 := bt4.mono hb5
        have bf5 := bf4.mono hb5
        cases bY with
        | false =>
          go_wp2_with fail
          go_ret
          exact ⟨_, rfl, hbw5, fun h => by cases h⟩
        | true =>
          clear t0 t1 tl g3 gl
          rcases Classical.em (cL = 1) with hc1 | hc1
          all_goals
            go_wp2_with fail
            go_loopw [66] (fun v wr => ∃ q : Nat, q ≤ T.length ∧ v = .int .i64 q ∧ MethOk cs (T.take q) cs[i].methods[k] ∧ Below w5.heap.size w5 wr) (fun v _ => T.length - (intOf v).toNat)
            case atStart => exact ⟨0, Nat.zero_le _, rfl, fun j hj => by simp at hj, Below.refl _ _⟩
            case round =>
              obtain ⟨q, hq, rfl, HN0, hbw⟩ := hrel
              have HN := Lib.hid HN0
              clear HN0
              have bt6 := bt5.mono hbw
              have bf6 := bf5.mono hbw
              have hbw6 := below_step hbw5 hbw
              have t0 := bt6.cell 0 rfl
              have tl := bt6.lt
              by_cases hqt : q < T.length
              · first
                | (exfalso; omega)
                | (obtain ⟨hbq, dq⟩ := tailI (hsL.mono hbw6) hqt
                   have hjb := hTb.out T[q] (List.getElem_mem hqt)
                   obtain ⟨j, hjj⟩ : ∃ j : Nat, T[q] = j := ⟨T[q].toNat, by omega⟩
                   have HJ := Lib.hid hjj
                   rw [hjj] at dq hjb
                   clear hjj
                   have hjl : j < cs.length := by omega
                   have hml := (hlk.out _ (List.getElem_mem hjl)).2.1
                   have HPL := Lib.hid (hlk.out _ (List.getElem_mem hjl)).2.2
                   obtain ⟨b7, o7, A7, c7, A8, c8, e7, hb7, k0, k1, k2, k3, hc7, hs7, hc8, hs8⟩ := hT.sl.cls_at hjl
                   simp only [Option.some.injEq, Addr.mk.injEq] at e7
                   obtain ⟨rfl, rfl, _⟩ := e7
                   have k3' := keptC k3 hb7 hbw6
                   clear k0 k1 k2 k3
                   go_wp2_with fail
                   clear k3' dq t0 tl
                   obtain ⟨wo, rfl⟩ : ∃ wo : World, wo = wr := ⟨_, rfl⟩
                   go_loopw [77] (fun v wr => ∃ z : Nat, z ≤ cs[j].methods.length ∧ v = .int .i64 z ∧ (∀ y (hy : y < z) (hy2 : y < cs[j].methods.length), cs[j].methods[y].name = cs[i].methods[k].name → Over cs[i].methods[k] cs[j].methods[y]) ∧ Below wo.heap.size wo wr) (fun v _ => cs[j].methods.length - (intOf v).toNat)
                   case atStart => exact ⟨0, Nat.zero_le _, rfl, fun y hy => by omega, Below.refl _ _⟩
                   case round =>
                     obtain ⟨z, hz, rfl, HM0, hbv⟩ := hrel
                     have HM := Lib.hid HM0
                     clear HM0
                     have hbw7 := below_step hbw6 hbv
                     have bf7 := bf6.mono hbv
                     have g0 := bf7.cell 0 rfl
                     have g1 := bf7.cell 1 rfl
                     have g2 := bf7.cell 2 rfl
                     have g3 := bf7.cell 3 rfl
                     have gl := bf7.lt
                     by_cases hzt : z < cs[j].methods.length
                     · obtain ⟨b9, o9, A9, c9, e9, hb9, s0, s1, s2, s3, hc9, hs9⟩ := hs8.sg_at hzt
                       subst e9
                       have s0' := keptC s0 hb9 hbw7
                       have s1' := keptC s1 hb9 hbw7
                       have s2' := keptC s2 hb9 hbw7
                       have s3' := keptC s3 hb9 hbw7
                       clear s0 s1 s2 s3
                       have hpl9 := HPL.out _ (List.getElem_mem hzt)
                       have hb10 : Below wr.heap.size wr (wr.alloc (.cells #[.string cs[j].methods[z].name, .bool cs[j].methods[z].static, .slice A9 cs[j].methods[z].params.length c9, .string cs[j].methods[z].result] 37)) := (by repeat (first | assumption | exact Below.refl _ _ | apply bw_alloc | apply bw_drew | apply bw_drewN | apply bw_later | apply bw_step))
                       cases hnm : (cs[j].methods[z].name.toList == cs[i].methods[k].name.toList) with
                       | true =>
                         go_wp2_with fail
                         refine (overrides_some cs[i].methods[k] cs[j].methods[z] Ap A9 cp c9 _ hpl hpl9 (hsp.mono (below_step hbw7 hb10)) (hs9.mono (below_step hbw7 hb10))).mono ?_
                         rintro e w8 ⟨bO, rfl, hb8, hO⟩
                         have HO := Lib.hid hO
                         clear hO
                         cases bO with
                         | false =>
                           go_wp2_with fail
                           go_ret
                           exact ⟨_, rfl, below_step hbw7 (below_step hb10 hb8), fun h => by cases h⟩
                         | true =>
                           have HM2 : Hid (∀ y (hy : y < z + 1) (hy2 : y < cs[j].methods.length), cs[j].methods[y].name = cs[i].methods[k].name → Over cs[i].methods[k] cs[j].methods[y]) := fun y hy hy2 h => by
                             by_cases ez : y = z
                             · subst ez; exact HO.out rfl
                             · exact HM.out y (by omega) hy2 h
                           clear hnm
                           go_wp2_with fail
                           go_roundw
                           case rel => exact ⟨z + 1, by omega, by go_num, HM2.out, below_step hbv (below_step hb10 hb8)⟩
                           case measure => simp [intOf]; omega
                       | false =>
                         have HM2 : Hid (∀ y (hy : y < z + 1) (hy2 : y < cs[j].methods.length), cs[j].methods[y].name = cs[i].methods[k].name → Over cs[i].methods[k] cs[j].methods[y]) := fun y hy hy2 h => by
                           by_cases ez : y = z
                           · subst ez
                             rw [eqS_iff.2 h] at hnm
                             cases hnm
                           · exact HM.out y (by omega) hy2 h
                         go_wp2_with fail
                         go_roundw
                         case rel => exact ⟨z + 1, by omega, by go_num, HM2.out, below_step hbv hb10⟩
                         case measure => simp [intOf]; omega
                     · have HX : Hid (MethOk cs (T.take (q + 1)) cs[i].methods[k]) := fun x hx o ho h => by
                         rw [List.take_succ_eq_append_getElem hqt] at hx
                         rcases List.mem_append.1 hx with hx | hx
                         · exact HN.out x hx o ho h
                         · simp at hx
                           rw [hx, HJ.out, mths_nat hjl] at ho
                           obtain ⟨y, hy, rfl⟩ := List.getElem_of_mem ho
                           exact HM.out y (by omega) hy h
                       go_wp2_with fail
                       go_roundw
                       case rel => exact ⟨q + 1, by omega, by go_num, HX.out, below_step hbw hbv⟩
                       case measure => simp [intOf]; omega)
              · have HX : Hid (MethOk cs T cs[i].methods[k]) := by
                  have := HN.out
                  rw [List.take_of_length_le (by omega)] at this
                  exact this
                go_wp2_with fail
                go_ret
                exact ⟨_, rfl, hbw6, fun _ => HX.out⟩
end Go.Proofs.YtafincpkehlcfaaDoor
