/-
  Chapter 13: the walk of IrFlows.
-/
import Derived.Test.YticpeombillmeaaGreatDoorJAwA
import Derived.Test.YticpeombillmeaaGreatDoorJCc
namespace Go.Proofs.YticpeombillmeaaGreatDoor
open Go.RowKit
set_option linter.unusedVariables false
theorem nextL_shape (i : Nat) (x : Ins) : nextL i x = [] ∧ (x.op = 13 ∨ x.op = 14) ∨ (∃ a, nextL i x = [a] ∧ ¬ (x.op = 13 ∨ x.op = 14)) ∨ (∃ a b, nextL i x = [a, b] ∧ a < b ∧ ¬ (x.op = 13 ∨ x.op = 14)) := by
  unfold nextL
  split
  · rename_i h; exact Or.inl ⟨rfl, h⟩
  rename_i h
  split
  · exact Or.inr (Or.inl ⟨_, rfl, h⟩)
  split
  · split
    · exact Or.inr (Or.inl ⟨_, rfl, h⟩)
    split
    · rename_i h3; exact Or.inr (Or.inr ⟨_, _, rfl, h3, h⟩)
    · rename_i h2 h3; exact Or.inr (Or.inr ⟨_, _, rfl, by omega, h⟩)
  · exact Or.inr (Or.inl ⟨_, rfl, h⟩)
theorem def_bounds {n i : Nat} {code : List Ins} {x : Ins} (h : InsC n code i x) : -1 ≤ (if usesB x.op 100 = true then x.dst else -1) ∧ (if usesB x.op 100 = true then x.dst else -1) < n := by
  split
  · rename_i hu; exact h.dst hu
  · omega
set_option maxRecDepth 100000 in
set_option maxHeartbeats 8000000 in
theorem walk_IrFlows (u : Unt) (A0 A1 : Option Addr) (a0 a1 : Nat) (w : World) (hg : Gl3 w) (HU : Hid (UnH w u A0 A1 a0)) :
    Calls Tryz.prog 5 #[.agg #[.slice A0 u.classes.length a0, .slice A1 u.funcs.length a1, .int .i64 u.main]] w fun e w' => e = .returned (.bool true) ∧ Below w.heap.size w w' := by
  have HC : Hid (∀ W, Below w.heap.size w W → Calls Tryz.prog 13 #[.agg #[.slice A0 u.classes.length a0, .slice A1 u.funcs.length a1, .int .i64 u.main]] W fun e w' => e = .returned (.tuple #[.int .i64 (chkE u).1, .int .i64 (chkE u).2.1, .int .i64 (chkE u).2.2]) ∧ Below W.heap.size W w') := fun W h => check_any u A0 A1 a0 a1 W (Lib.hid (HU.out.mono h))
  have HW := Lib.hid (fun W (h : Below w.heap.size w W) => awake_any W (hg.mono h))
  have HV : Hid ((chkE u).2.2 = 0 → ∀ k (hk : k < u.funcs.length), u.funcs[k].code.length ≤ 1024 ∧ ∀ i (hi : i < u.funcs[k].code.length), InsC u.funcs[k].vars.length u.funcs[k].code i u.funcs[k].code[i]) := fun h k hk => by
    obtain ⟨p, _, hf⟩ := (untV_of h).fn k hk
    exact ⟨hf.cl1, fun i hi => insC_of hi (hf.code i hi)⟩
  have hfl := HU.out.hfl
  have hsF := HU.out.hf
  have hfx := HU.out.hfx
  clear HU
  generalize chkE u = q at *
  obtain ⟨q1, q2, q3⟩ := q
  simp only at HC HV
  go_enter Tryz.func5, Tryz.ntmps5
  go_upto_region 1 with fail
  generalize hW : World.alloc _ _ = W1 at *
  have hbW : Below w.heap.size w W1 := by rw [← hW]; exact (by repeat (first | assumption | exact Below.refl _ _ | apply bw_alloc | apply bw_drew | apply bw_drewN | apply bw_later | apply bw_step))
  have bx : Box W1 w.heap.size [.slice A0 u.classes.length a0, .slice A1 u.funcs.length a1, .int .i64 u.main] 27 := by rw [← hW]; exact (by repeat (first | (refine Box.at ?_; (simp; done)) | apply Box.drew | apply Box.alloc | assumption))
  clear hW
  have x0 := bx.cell 0 rfl
  have x1 := bx.cell 1 rfl
  have x2 := bx.cell 2 rfl
  have xl := bx.lt
  go_wp2_with fail
  refine (HC.out _ hbW).mono ?_
  rintro e w2 ⟨rfl, hb2⟩
  have hbw2 := below_step hbW hb2
  have bx2 := bx.mono hb2
  clear x0 x1 x2 xl bx
  by_cases h3 : q3 = 0
  · subst h3
    have HQ := Lib.hid (HV.out rfl)
    go_wp2_with fail
    go_loopw [6] (fun i wr => ∃ k : Nat, k ≤ u.funcs.length ∧ i = .int .i64 k ∧ Below w2.heap.size w2 wr) (fun i _ => u.funcs.length - (intOf i).toNat)
    case atStart => exact ⟨0, Nat.zero_le _, rfl, Below.refl _ _⟩
    case round =>
      obtain ⟨k, hk, rfl, hbr⟩ := hrel
      have bx3 := bx2.mono hbr
      have x1 := bx3.cell 1 rfl
      have xl := bx3.lt
      have hbf := below_step hbw2 hbr
      by_cases hlt : k < u.funcs.length
      · obtain ⟨hcode, hins⟩ := HQ.out k hlt
        have hins := Lib.hid hins
        obtain ⟨b, o, AV, cV, AC, cC, rfl, hb, d0, d1, d2, d3, d4, d5, d6, hcV, hsV, hcC, hsC⟩ := (hsF.mono hbf).fun_at hlt
        obtain ⟨f, HF⟩ : ∃ f, Hid (f = u.funcs[k]) := ⟨_, Lib.hid rfl⟩
        rw [← HF.out] at d0 d1 d2 d3 d4 d5 d6 hcV hsV hcC hsC hcode hins
        go_upto_region 8 with fail
        generalize hW : World.alloc _ _ = W7 at *
        have hb7 : Below wr.heap.size wr W7 := by rw [← hW]; exact (by repeat (first | assumption | exact Below.refl _ _ | apply bw_alloc | apply bw_drew | apply bw_drewN | apply bw_later | apply bw_step))
        have bf : Box W7 wr.heap.size [.string f.cls, .string f.name, .bool f.static, .int .i64 f.nparams, .slice AV f.vars.length cV, .string f.result, .slice AC f.code.length cC] 43 := by rw [← hW]; exact (by repeat (first | (refine Box.at ?_; (simp; done)) | apply Box.drew | apply Box.alloc | assumption))
        clear hW d0 d1 d2 d3 d4 d5 d6 x1 xl
        replace hsC := hsC.mono hb7
        go_wp2_with fail
        obtain ⟨wo, rfl⟩ : ∃ wo : World, wo = wr := ⟨_, rfl⟩
        go_loopw [8] (fun i wr => ∃ j : Nat, j ≤ f.code.length ∧ i = .int .i64 j ∧ Below W7.heap.size W7 wr) (fun i _ => f.code.length - (intOf i).toNat)
        case atStart => exact ⟨0, Nat.zero_le _, rfl, Below.refl _ _⟩
        case round =>
          obtain ⟨j, hj, rfl, hbj⟩ := hrel
          have bf2 := bf.mono hbj
          have f0 := bf2.cell 0 rfl
          have f1 := bf2.cell 1 rfl
          have f2 := bf2.cell 2 rfl
          have f3 := bf2.cell 3 rfl
          have f4 := bf2.cell 4 rfl
          have f5 := bf2.cell 5 rfl
          have f6 := bf2.cell 6 rfl
          have fl := bf2.lt
          by_cases hjl : j < f.code.length
          · have hI := Lib.hid (hins.out j hjl)
            have HN := Lib.hid (fun W (h : Below wr.heap.size wr W) => next_any f.cls f.name f.static f.nparams AV f.vars.length cV f.result AC cC f.code j W hcode hjl (hsC.mono (below_step hbj h)) (Lib.hid hI.out.cl))
            have HSH := Lib.hid (nextL_shape j f.code[j])
            have HTO := Lib.hid hI.out.nxt
            obtain ⟨N, HNe⟩ : ∃ N, Hid (N = nextL j f.code[j]) := ⟨_, Lib.hid rfl⟩
            rw [← HNe.out] at HN HSH HTO
            clear HNe
            go_wp2_with fail
            refine (HN.out _ (Below.refl _ _)).mono ?_
            rintro e w3 ⟨⟨v, rfl, hown⟩, hb3⟩
            obtain ⟨AN, cN, rfl, hcN, hsN⟩ := IntsV.of_own hown
            have bf3 := bf2.mono hb3
            have hbj3 := below_step hbj hb3
            clear f0 f1 f2 f3 f4 f5 f6 fl
            have f6 := bf3.cell 6 rfl
            have fl := bf3.lt
            obtain ⟨b, o, A7, c7, rfl, hb, d0, d1, d2, d3, d4, d5, d6, d7, d8, d9, hc7, hs7⟩ := (hsC.mono hbj3).ins_at hjl
            obtain ⟨ends, HEN⟩ : ∃ z : Bool, Hid (z = (decide (f.code[j].op = 13) || decide (f.code[j].op = 14))) := ⟨_, Lib.hid rfl⟩
            go_upto_region 12 with fail
            go_cut [10] (fun s wx => s = .bool ends ∧ w3 = wx)
            case first =>
              cases e13 : (f.code[j].op == 13) with
              | true =>
                have HB : Hid (ends = true) := by show _ = _; rw [HEN.out, decide_eq_true (eq_of_beq e13)]; rfl
                go_wp2_with fail
                go_meet
                exact ⟨by rw [HB.out], rfl⟩
              | false =>
              have n13 : ¬ f.code[j].op = 13 := fun h => by rw [h] at e13; cases e13
              cases e14 : (f.code[j].op == 14) with
              | true =>
                have HB : Hid (ends = true) := by show _ = _; rw [HEN.out, decide_eq_true (eq_of_beq e14), Bool.or_true]
                clear n13
                go_wp2_with fail
                go_meet
                exact ⟨by rw [HB.out], rfl⟩
              | false =>
                have n14 : ¬ f.code[j].op = 14 := fun h => by rw [h] at e14; cases e14
                have HB : Hid (ends = false) := by show _ = _; rw [HEN.out, decide_eq_false n13, decide_eq_false n14]; rfl
                clear n13 n14
                go_wp2_with fail
                go_meet
                exact ⟨by rw [HB.out], rfl⟩
            case rest =>
              obtain ⟨rfl, rfl⟩ := hcut
              have HEC : Hid ((N = [] ∧ ends = true) ∨ (∃ a, N = [a] ∧ ends = false) ∨ (∃ a b, N = [a, b] ∧ a < b ∧ ends = false)) := by
                show _ ∨ _
                rw [HEN.out]
                rcases HSH.out with ⟨h1, h2⟩ | ⟨a, h1, h2⟩ | ⟨a, b, h1, h2, h3⟩
                · exact Or.inl ⟨h1, by rcases h2 with h | h <;> simp [h]⟩
                · exact Or.inr (Or.inl ⟨a, h1, by simpa using h2⟩)
                · exact Or.inr (Or.inr ⟨a, b, h1, h2, by simpa using h3⟩)
              clear HSH HEN
              go_upto_region 13 with fail
              go_cut [83] (fun s wx => s = .bool false ∧ Below w3.heap.size w3 wx)
              case first =>
                rcases HEC.out with ⟨rfl, rfl⟩ | ⟨a, rfl, rfl⟩ | ⟨a, b, rfl, hab, rfl⟩
                · simp only [List.length_nil]
                  refine wp_region_later (by kernel_rfl) (by kernel_rfl) ?_
                  repeat (go_big_quiet_step (fail))
                  refine wpQuiet_nil ?_
                  rintro _ ⟨z, rfl⟩
                  go_wp2_with fail
                  go_meet
                  exact ⟨rfl, z.h⟩
                · simp only [List.length_cons, List.length_nil]
                  refine wp_region_later (by kernel_rfl) (by kernel_rfl) ?_
                  repeat (go_big_quiet_step (fail))
                  refine wpQuiet_nil ?_
                  rintro _ ⟨z, rfl⟩
                  go_wp2_with fail
                  go_meet
                  exact ⟨rfl, z.h⟩
                · obtain ⟨bn, on, rfl, hbn, n0⟩ := hsN.int_at (i := 0) (by simp)
                  obtain ⟨bn', on', e2, hbn', n1⟩ := hsN.int_at (i := 1) (by simp)
                  obtain ⟨rfl, rfl⟩ : bn = bn' ∧ on = on' := by simpa using e2
                  simp only [List.getElem_cons_zero, List.getElem_cons_succ, Nat.add_zero] at n0 n1
                  have hba : ¬ b ≤ a := by omega
                  have hba2 : decide (b ≤ a) = false := by simpa using hab
                  simp only [List.length_cons, List.length_nil]
                  refine wp_region_later (by kernel_rfl) (by kernel_rfl) ?_
                  repeat (go_big_quiet_step (fail))
                  refine wpQuiet_nil ?_
                  rintro _ ⟨z, rfl⟩
                  go_wp2_with fail
                  go_meet
                  exact ⟨rfl, z.h⟩
              case rest =>
                obtain ⟨rfl, hbc⟩ := hcut
                have hNl : N.length ≤ 2 := by
                  rcases HEC.out with ⟨h, _⟩ | ⟨a, h, _⟩ | ⟨a, b, h, _⟩ <;> rw [h] <;> simp
                have hbj4 := below_step hbj3 hbc
                clear HEC d0 d1 d2 d3 d4 d5 d6 d7 d8 d9 hs7 hc7 f6 fl
                go_wp2_with fail
                obtain ⟨wp, rfl⟩ : ∃ wp : World, wp = wr := ⟨_, rfl⟩
                go_loopw [11] (fun i wr => ∃ n : Nat, n ≤ N.length ∧ i = .int .i64 n ∧ Below wc.heap.size wc wr) (fun i _ => N.length - (intOf i).toNat)
                case atStart => exact ⟨0, Nat.zero_le _, rfl, Below.refl _ _⟩
                case round =>
                  obtain ⟨n, hn, rfl, hbn⟩ := hrel
                  have hbj5 := below_step hbj4 hbn
                  have bf4 := bf.mono hbj5
                  have f4 := bf4.cell 4 rfl
                  have f6 := bf4.cell 6 rfl
                  have fl := bf4.lt
                  by_cases hnl : n < N.length
                  · obtain ⟨bn, on, rfl, hbn2, n0⟩ := ((hsN.mono hbc).mono hbn).int_at hnl
                    obtain ⟨t1, t2, t3⟩ := HTO.out _ (List.getElem_mem hnl)
                    obtain ⟨z, hz⟩ : ∃ z : Nat, N[n] = z := ⟨N[n].toNat, by omega⟩
                    rw [hz] at n0 t2 t3
                    clear hz t1
                    have hzl : z < f.code.length := by omega
                    rw [isCat_nat hzl] at t3
                    have c15 : (f.code[z].op == 15) = false := by
                      rw [Bool.eq_false_iff]
                      intro h
                      rw [decide_eq_true (eq_of_beq h)] at t3
                      cases t3
                    clear t3
                    obtain ⟨b2, o2, A7, c7, e2, hb', d0, d1, d2, d3, d4, d5, d6, d7, d8, d9, hc7, hs7⟩ := (hsC.mono hbj5).ins_at hzl
                    obtain ⟨rfl, rfl⟩ : b = b2 ∧ o = o2 := by simpa using e2
                    clear d1 d2 d3 d4 d5 d6 d7 d8 d9 hs7 hc7 e2
                    have z0 : ¬ (z : Int) < 0 := by omega
                    have z3 : decide ((z : Int) < 0) = false := by simp
                    have z1 : ¬ (f.code.length : Int) ≤ z := by omega
                    have z4 : ¬ f.code.length ≤ z := by omega
                    have z5 : decide (f.code.length ≤ z) = false := decide_eq_false z4
                    have z2 : decide ((f.code.length : Int) ≤ z) = false := by simpa using hzl
                    go_wp2_with fail
                    refine wp_region_later (by kernel_rfl) (by kernel_rfl) ?_
                    repeat (go_big_quiet_step (fail))
                    refine wpQuiet_nil ?_
                    rintro _ ⟨y, rfl⟩
                    go_wp2_with fail
                    go_roundw
                    case rel => exact ⟨n + 1, by omega, by go_num, below_step hbn y.h⟩
                    case measure => simp [intOf]; omega
                  · obtain ⟨b2, o2, A7, c7, e2, hb', d0, d1, d2, d3, d4, d5, d6, d7, d8, d9, hc7, hs7⟩ := (hsC.mono hbj5).ins_at hjl
                    obtain ⟨rfl, rfl⟩ : b = b2 ∧ o = o2 := by simpa using e2
                    have HD := Lib.hid (fun W (h : Below wr.heap.size wr W) => def_any f.code[j] A7 c7 W (hfx.mono (below_step (below_step (below_step hbf hb7) hbj5) h)))
                    have HDB := Lib.hid (def_bounds hI.out)
                    generalize (if usesB f.code[j].op 100 = true then f.code[j].dst else -1) = dv at *
                    clear e2
                    go_wp2_with fail
                    refine (HD.out _ (Below.refl _ _)).mono ?_
                    rintro e w8 ⟨rfl, hb8⟩
                    obtain ⟨g1, g2⟩ := HDB.out
                    have bf5 := bf4.mono hb8
                    clear f4 f6 fl d0 d1 d2 d3 d4 d5 d6 d7 d8 d9
                    have f4 := bf5.cell 4 rfl
                    have fl := bf5.lt
                    have v0 : ¬ dv < -1 := by omega
                    have v1 : decide (dv < -1) = false := by simpa using g1
                    have v2 : ¬ (f.vars.length : Int) ≤ dv := by omega
                    have v3 : decide ((f.vars.length : Int) ≤ dv) = false := by simpa using g2
                    go_wp2_with fail
                    go_roundw
                    case rel => exact ⟨j + 1, by omega, by go_num, below_step hbj5 hb8⟩
                    case measure => simp [intOf]; omega
          · go_wp2_with fail
            go_roundw
            case rel => exact ⟨k + 1, by omega, by go_num, below_step hbr (below_step hb7 hbj)⟩
            case measure => simp [intOf]; omega
      · go_wp2_with fail
        refine (HW.out _ hbf).mono ?_
        rintro e w4 ⟨rfl, hb4⟩
        go_wp2_with fail
        go_ret
        exact ⟨rfl, below_step hbf hb4⟩
  · have h4 : (q3 != 0) = true := by simpa using h3
    go_wp2_with fail
    refine (HW.out _ hbw2).mono ?_
    rintro e w4 ⟨rfl, hb4⟩
    go_wp2_with fail
    go_ret
    exact ⟨rfl, below_step hbw2 hb4⟩
end Go.Proofs.YticpeombillmeaaGreatDoor
