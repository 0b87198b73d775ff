/-
  Chapter 47: report.checkNotes.
-/
import Derived.Test.YtlcdnkloijehjaaGreatDoorRepL
namespace Go.Proofs.YtlcdnkloijehjaaGreatDoor
open Go.RowKit
set_option linter.unusedVariables false

theorem Own.madeR {α : Type} {c : α → Value} {base g : Nat} {e : TypeId} (z : Value) (w : World) (n : Nat) (l : List α) (hg : w.heap.size = g) (hl : l.length = n) (hb : base ≤ g) (hm : n ≤ maxLen) (hc : l.map c = List.replicate n z) :
    Own (fun x => [c x]) 1 base e (w.alloc (.cells (madeCells #[z] n) e)) (.slice (some ⟨g, 0, none⟩) n n) l := by
  subst hg
  exact Own.made z w n l hl hb hm hc
theorem offB_no {n : Int} (h : offB n = false) : 0 ≤ n ∧ n < 200 := by
  unfold offB at h
  simp only [Bool.or_eq_false_iff, decide_eq_false_iff_not] at h
  omega
set_option maxHeartbeats 4000000 in
set_option maxRecDepth 100000 in
theorem checkNotes_any (H : List Hdn) (U : List Int) (A0 A1 A2 : Option Addr) (n0 c0 c1 c2 : Nat) (w : World) (hl : H.length ≤ 1000) (hu : U.length ≤ 200) (hs : Sl Lay.hdn w A1 H) (hsu : Sl Lay.int w A2 U) :
    Calls Tryz.prog 24 #[.agg #[.slice A0 n0 c0, .slice A1 H.length c1, .slice A2 U.length c2]] w fun e w' => e = .returned (.int .i64 (noteE H U)) ∧ Below w.heap.size w w' := by
  obtain ⟨r, HR⟩ : ∃ r, Hid (r = noteE H U) := ⟨_, Lib.hid rfl⟩
  rw [← HR.out]
  have bx0 := Box.new w [.slice A0 n0 c0, .slice A1 H.length c1, .slice A2 U.length c2] 26
  have hb0 : Below w.heap.size w (w.alloc (.cells #[.slice A0 n0 c0, .slice A1 H.length c1, .slice A2 U.length c2] 26)) := (by repeat (first | assumption | exact Below.refl _ _ | apply bw_alloc | apply bw_drew | apply bw_drewN | apply bw_later | apply bw_step))
  have hmk : ∀ W, (Instr.makeSlice 99 (.int .i64 200) (.int .i64 200)).run Tryz.prog W = .ok (.slice (some ⟨W.heap.size, 0, none⟩) 200 200) (W.alloc (.cells (madeCells #[.bool false] 200) 4)) := fun W => boolTy.make .i64 .i64 200 (by omega) (by omega) W
  go_enter Tryz.func24, Tryz.ntmps24
  go_upto_region 2 with fail
  generalize hW : World.alloc (World.alloc _ _) _ = W1
  have bx1 : Box W1 w.heap.size [.slice A0 n0 c0, .slice A1 H.length c1, .slice A2 U.length c2] 26 := by rw [← hW]; exact bx0.alloc _
  have ov1 : Own (fun x : Bool => [Value.bool x]) 1 w.heap.size 4 W1 (.slice (some ⟨w.heap.size + 1, 0, none⟩) 200 200) (List.replicate 200 false) := by
    rw [← hW]
    exact Own.madeR (c := Value.bool) (.bool false) _ 200 (List.replicate 200 false) (by simp) (by simp) (by omega) (by unfold maxLen; omega) (by simp)
  have hb1 : Below w.heap.size w W1 := by rw [← hW]; exact bw_alloc hb0
  clear hW hmk bx0 hb0
  have p1 := bx1.cell 1 rfl
  have pl := bx1.lt
  go_wp2_with fail
  go_loopw [15] (fun i wr => ∃ (k : Nat) (S : List Bool), k ≤ H.length ∧ i = .int .i64 k ∧ Box wr w.heap.size [.slice A0 n0 c0, .slice A1 H.length c1, .slice A2 U.length c2] 26 ∧ Own (fun x : Bool => [Value.bool x]) 1 w.heap.size 4 wr (.slice (some ⟨w.heap.size + 1, 0, none⟩) 200 200) S ∧ Hid (S.length = 200) ∧ Below w.heap.size w wr ∧ Hid (∀ i : Nat, i < 200 → S[i]? = some (hitN (H.take k) (i : Int))) ∧ Hid ((H.take k).any (fun h => offB h.note) = false)) (fun i _ => H.length - (intOf i).toNat)
  case atStart => exact ⟨0, _, Nat.zero_le _, rfl, bx1, ov1, Lib.hid (by simp), hb1, Lib.hid (fun i hi => by rw [List.getElem?_replicate, if_pos hi]; rfl), Lib.hid rfl⟩
  case round =>
    clear bx1 ov1 hb1 p1 pl
    obtain ⟨k, S, hk, rfl, hbx, ov, HSl, hbw, HS, HN⟩ := hrel
    by_cases hlt : k < H.length
    · obtain ⟨b, o, A3, c3, rfl, h1, d0, d1, d2, d3, d4, d5, d6, hc3, hs3⟩ := (hs.mono hbw).hdn_at hlt
      have HA := Lib.hid (anyT_succ (f := fun h => offB h.note) hlt)
      have HV := Lib.hid (anyT_yes (f := fun h => offB h.note) hlt)
      have HH := Lib.hid (fun n => anyT_succ (f := fun h => h.note == n) hlt)
      obtain ⟨n, hn⟩ : ∃ n, n = H[k].note := ⟨_, rfl⟩
      rw [← hn] at HA HV HH d6
      clear hn
      by_cases g1 : n < 0
      · have HB : Hid (r = 4) := by
          show _ = _
          rw [HR.out]
          unfold noteE noteBad
          rw [HV.out (by unfold offB; rw [decide_eq_true g1]; rfl)]
          rfl
        clear HA HV HH HS HN
        go_wp2_with fail
        go_ret
        exact ⟨by rw [HB.out]; rfl, bw_alloc hbw⟩
      by_cases g2 : 200 ≤ n
      · have HB : Hid (r = 4) := by
          show _ = _
          rw [HR.out]
          unfold noteE noteBad
          rw [HV.out (by unfold offB; rw [decide_eq_true g2, Bool.or_true])]
          rfl
        clear HA HV HH HS HN
        go_wp2_with fail
        go_ret
        exact ⟨by rw [HB.out]; rfl, bw_alloc hbw⟩
      obtain ⟨m, hm⟩ : ∃ m : Nat, n = m := ⟨n.toNat, by omega⟩
      subst hm
      have hm2 : m < 200 := by omega
      have hm3 : (m : Int) < 200 := by omega
      have HS2 : Hid (∀ i : Nat, i < 200 → (S.set m true)[i]? = some (hitN (H.take (k + 1)) (i : Int))) := by
        show ∀ i, _
        intro i hi
        have h1 := HS.out i hi
        have h2 := HSl.out
        unfold hitN at h1 ⊢
        rw [HH.out, List.getElem?_set]
        by_cases e : m = i
        · subst e
          rw [if_pos rfl, if_pos (by omega)]
          simp
        · rw [if_neg e, h1]
          have h3 : ((m : Int) == (i : Int)) = false := by rw [beq_eq_false_iff_ne]; exact fun h => e (by omega)
          rw [h3, Bool.or_false]
      have HN2 : Hid ((H.take (k + 1)).any (fun h => offB h.note) = false) := by
        show _ = _
        rw [HA.out, HN.out]
        unfold offB
        rw [decide_eq_false g1, decide_eq_false g2]
        rfl
      have c0 := Own.at1 (c := Value.bool) ov HSl.out (i := m) (by have := HSl.out; omega)
      have cf := Own.free1 (c := Value.bool) ov HSl.out m
      have cl := ov.ge1.2
      have HSL2 : Hid ((S.set m true).length = 200) := by show _ = _; rw [List.length_set]; exact HSl.out
      clear HA HV HH HN HS
      go_wp2_with fail
      go_roundw
      case rel => exact ⟨k + 1, S.set m true, by omega, by go_num, (hbx.setOther (p := ⟨w.heap.size + 1, m, none⟩) (by simp) _).alloc _, (Own.set1 (c := Value.bool) ov HSl.out m true).alloc _, HSL2, bw_alloc (bw_setCell (p := ⟨w.heap.size + 1, m, none⟩) hbw (by simp)), HS2, HN2⟩
      case measure => simp [intOf]; omega
    · obtain rfl : k = H.length := by omega
      rw [List.take_length] at HS HN
      have HR2 : Hid (r = if unsBad U then 4 else if ascI U then (if hitU H U then 20 else 0) else 13) := by
        show _ = _
        rw [HR.out]
        unfold noteE
        rw [show noteBad H = false from HN.out]
        rfl
      clear HR HN hk hlt
      obtain ⟨wo, rfl⟩ : ∃ wo : World, wo = wr := ⟨_, rfl⟩
      have p2 := hbx.cell 2 rfl
      have pl := hbx.lt
      go_wp2_with fail
      go_loop [35] (fun i => ∃ k : Nat, k ≤ U.length ∧ i = .int .i64 k ∧ Hid ((U.take k).any offB = false)) (fun i => U.length - (intOf i).toNat)
      case atStart => exact ⟨0, Nat.zero_le _, rfl, Lib.hid rfl⟩
      case round =>
        obtain ⟨k, hk, rfl, HN⟩ := hrel
        by_cases hlt : k < U.length
        · obtain ⟨b2, o2, rfl, h2, d0⟩ := (hsu.mono hbw).int_at hlt
          have HA := Lib.hid (anyT_succ (f := offB) hlt)
          have HV := Lib.hid (anyT_yes (f := offB) hlt)
          obtain ⟨n, hn⟩ : ∃ n, n = U[k] := ⟨_, rfl⟩
          rw [← hn] at HA HV d0
          clear hn
          by_cases g1 : n < 0
          · have HB : Hid (r = 4) := by
              show _ = _
              rw [HR2.out]
              unfold unsBad
              rw [HV.out (by unfold offB; rw [decide_eq_true g1]; rfl)]
              rfl
            clear HA HV HN
            go_wp2_with fail
            go_ret
            exact ⟨by rw [HB.out]; rfl, hbw⟩
          by_cases g2 : 200 ≤ n
          · have HB : Hid (r = 4) := by
              show _ = _
              rw [HR2.out]
              unfold unsBad
              rw [HV.out (by unfold offB; rw [decide_eq_true g2, Bool.or_true])]
              rfl
            clear HA HV HN
            go_wp2_with fail
            go_ret
            exact ⟨by rw [HB.out]; rfl, hbw⟩
          have HN2 : Hid ((U.take (k + 1)).any offB = false) := by
            show _ = _
            rw [HA.out, HN.out]
            unfold offB
            rw [decide_eq_false g1, decide_eq_false g2]
            rfl
          clear HA HV HN
          go_wp2_with fail
          go_round
          case rel => exact ⟨k + 1, by omega, by go_num, HN2⟩
          case measure => simp [intOf]; omega
        · obtain rfl : k = U.length := by omega
          rw [List.take_length] at HN
          have HUR : Hid (∀ (i : Nat) (h : i < U.length), 0 ≤ U[i] ∧ U[i] < 200) := by
            show ∀ i, _
            intro i h
            have h1 := List.any_eq_false.1 HN.out U[i] (List.getElem_mem h)
            exact offB_no (by simpa using h1)
          have HR3 : Hid (r = if ascI (U.drop 0) then (if hitU H U then 20 else 0) else 13) := by
            show _ = _
            rw [HR2.out, show unsBad U = false from HN.out]
            rfl
          clear HR2 HN hk hlt
          go_wp2_with fail
          go_loopw [8] (fun i wq => ∃ k : Nat, k ≤ U.length ∧ i = .int .i64 ((k : Int) + 1) ∧ Hid (r = if ascI (U.drop k) then (if hitU H U then 20 else 0) else 13) ∧ Below wo.heap.size wo wq) (fun i _ => U.length + 1 - (intOf i).toNat)
          case atStart => exact ⟨0, Nat.zero_le _, rfl, HR3, Below.refl _ _⟩
          case round =>
            clear HR3 p2 pl
            obtain ⟨k, hk, rfl, HR, hbq⟩ := hrel
            have hbxq := hbx.mono hbq
            have hbwq := below_step hbw hbq
            have p2 := hbxq.cell 2 rfl
            have pl := hbxq.lt
            by_cases hlt : k + 1 < U.length
            · have hlt0 : k < U.length := by omega
              obtain ⟨b2, o2, rfl, h2, d0⟩ := (hsu.mono hbwq).int_at hlt0
              obtain ⟨b3, o3, e0, h3, d1⟩ := (hsu.mono hbwq).int_at hlt
              obtain ⟨rfl, rfl⟩ : b2 = b3 ∧ o2 = o3 := by simpa using e0
              have HS3 := Lib.hid (ascI_step hlt)
              have i1 : ((k : Int) + 1 - 1) = (k : Int) := by omega
              have g1 : ((k : Int) + 1 < (U.length : Int)) := by omega
              obtain ⟨x, hx⟩ : ∃ x, x = U[k] := ⟨_, rfl⟩
              obtain ⟨y, hy⟩ : ∃ y, y = U[k + 1] := ⟨_, rfl⟩
              rw [← hx, ← hy] at HS3
              rw [← hx] at d0
              rw [← hy] at d1
              clear hx hy e0
              by_cases hg : x < y
              · have HR2 : Hid (r = if ascI (U.drop (k + 1)) then (if hitU H U then 20 else 0) else 13) := by show _ = _; rw [HR.out, HS3.out, decide_eq_true hg, Bool.true_and]
                have tg : ¬ y ≤ x := by omega
                clear HR HS3
                go_wp2_with fail
                refine wp_region_later (by kernel_rfl) (by kernel_rfl) ?_
                repeat (go_big_quiet_step (fail))
                refine wpQuiet_nil ?_
                rintro _ ⟨z, rfl⟩
                have hbq2 := below_step hbq z.h
                go_wp2_with fail
                go_roundw
                case rel => exact ⟨k + 1, by omega, by go_num, HR2, hbq2⟩
                case measure => simp [intOf]; omega
              · have HR2 : Hid (r = 13) := by show _ = _; rw [HR.out, HS3.out, decide_eq_false hg]; rfl
                have tg : y ≤ x := by omega
                clear HR HS3
                go_wp2_with fail
                refine wp_region_later (by kernel_rfl) (by kernel_rfl) ?_
                repeat (go_big_quiet_step (fail))
                refine wpQuiet_nil ?_
                rintro _ ⟨z, rfl⟩
                have hbw2 := below_step hbwq z.h
                go_wp2_with fail
                go_ret
                exact ⟨by rw [HR2.out]; rfl, hbw2⟩
            · have HR2 : Hid (r = if (U.drop 0).any (hitN H) then 20 else 0) := by show _ = _; rw [HR.out, ascI_end (by omega)]; rfl
              have g1 : ¬ ((k : Int) + 1 < (U.length : Int)) := by omega
              have ovq := ov.mono hbq
              have cl := ovq.ge1.2
              clear HR hk hlt
              go_wp2_with fail
              go_loop [68] (fun i => ∃ k : Nat, k ≤ U.length ∧ i = .int .i64 k ∧ Hid (r = if (U.drop k).any (hitN H) then 20 else 0)) (fun i => U.length - (intOf i).toNat)
              case atStart => exact ⟨0, Nat.zero_le _, rfl, HR2⟩
              case round =>
                clear HR2 g1
                obtain ⟨j, hj, rfl, HR⟩ := hrel
                by_cases hlt : j < U.length
                · obtain ⟨b2, o2, rfl, h2, d0⟩ := (hsu.mono hbwq).int_at hlt
                  obtain ⟨u1, u2⟩ := HUR.out j hlt
                  have HD : Hid ((U.drop j).any (hitN H) = (hitN H U[j] || (U.drop (j + 1)).any (hitN H))) := by show _ = _; rw [List.drop_eq_getElem_cons hlt]; rfl
                  obtain ⟨n, hn⟩ : ∃ n, n = U[j] := ⟨_, rfl⟩
                  rw [← hn] at HD d0 u1 u2
                  clear hn
                  obtain ⟨m, rfl⟩ : ∃ m : Nat, n = m := ⟨n.toNat, by omega⟩
                  have hm2 : m < 200 := by omega
                  have hmS : m < S.length := by have := HSl.out; omega
                  have c0 := Own.at1 (c := Value.bool) ovq HSl.out (i := m) hmS
                  have h5 := HS.out m hm2
                  rw [List.getElem?_eq_getElem hmS] at h5
                  rw [Option.some.inj h5] at c0
                  rw [HD.out] at HR
                  clear h5 hmS HD
                  generalize hitN H (m : Int) = v at *
                  cases v with
                  | true =>
                    have HR2 : Hid (r = 20) := by show _ = _; rw [HR.out]; rfl
                    clear HR
                    go_wp2_with fail
                    go_ret
                    exact ⟨by rw [HR2.out]; rfl, hbwq⟩
                  | false =>
                    rw [Bool.false_or] at HR
                    go_wp2_with fail
                    go_round
                    case rel => exact ⟨j + 1, by omega, by go_num, HR⟩
                    case measure => simp [intOf]; omega
                · have HR2 : Hid (r = 0) := by show _ = _; rw [HR.out, List.drop_eq_nil_of_le (by omega)]; rfl
                  clear HR
                  go_wp2_with fail
                  go_ret
                  exact ⟨by rw [HR2.out]; rfl, hbwq⟩
end Go.Proofs.YtlcdnkloijehjaaGreatDoor
