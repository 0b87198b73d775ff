/-
  Chapter 47: a search among ascending findings. (Printed by wip/gen/repO.py.)
-/
import Derived.Test.YtlcdnkloijehjaaGreatDoorRepN
namespace Go.Proofs.YtlcdnkloijehjaaGreatDoor
open Go.RowKit
set_option linter.unusedVariables false

def HasR (b : Bool) (e : Ending) : Prop := ∃ i : Int, e = .returned (.tuple #[.int .i64 i, .bool b])
set_option maxHeartbeats 4000000 in
set_option maxRecDepth 100000 in
theorem bsF_any (m : List Fnd) (x : Fnd) (A B : Option Addr) (c d : Nat) (w : World) (hl : m.length ≤ 100000) (hr : Hid (risesB m = true)) (hok : Hid (∀ y ∈ m, y.path.length ≤ 9223372036854775807)) (hx : x.path.length ≤ 9223372036854775807) (hs : Sl Lay.fnd w A m) (hsx : Sl Lay.plc w B x.path) :
    Calls Tryz.prog 23 #[.slice A m.length c, .agg #[.int .i64 x.kind, .string x.plc.cls, .string x.plc.mth, .int .i64 x.plc.ins, .string x.what, .slice B x.path.length d], .func (.func 22) #[] #[]] w fun e w' => HasR (hasF m x) e ∧ Below w.heap.size w w' := by
  obtain ⟨r, HR⟩ : ∃ r, Hid (r = hasF m x) := ⟨_, Lib.hid rfl⟩
  rw [← HR.out]
  have bx0 := Box.new w [.int .i64 x.kind, .string x.plc.cls, .string x.plc.mth, .int .i64 x.plc.ins, .string x.what, .slice B x.path.length d] 46
  have hb0 : Below w.heap.size w (w.alloc (.cells #[.int .i64 x.kind, .string x.plc.cls, .string x.plc.mth, .int .i64 x.plc.ins, .string x.what, .slice B x.path.length d] 46)) := (by repeat (first | assumption | exact Below.refl _ _ | apply bw_alloc | apply bw_drew | apply bw_drewN | apply bw_later | apply bw_step))
  go_enter Tryz.func23, Tryz.ntmps23
  go_wp2_with fail
  go_loopw [9, 10] (fun si sj wr => ∃ i j : Nat, si = .int .i64 i ∧ sj = .int .i64 j ∧ i ≤ j ∧ j ≤ m.length ∧ Hid (∀ k (hk : k < m.length), k < i → cmpF m[k] x < 0) ∧ Hid (∀ k (hk : k < m.length), j ≤ k → 0 ≤ cmpF m[k] x) ∧ Box wr w.heap.size [.int .i64 x.kind, .string x.plc.cls, .string x.plc.mth, .int .i64 x.plc.ins, .string x.what, .slice B x.path.length d] 46 ∧ Below w.heap.size w wr) (fun si sj _ => (intOf sj - intOf si).toNat)
  case atStart => exact ⟨0, m.length, rfl, rfl, Nat.zero_le _, Nat.le_refl _, Lib.hid (fun k hk h => absurd h (Nat.not_lt_zero _)), Lib.hid (fun k hk h => absurd hk (by omega)), bx0, hb0⟩
  case round =>
    clear bx0 hb0
    obtain ⟨i, j, rfl, rfl, hij, hjm, HLO, HHI, hbx, hbw⟩ := hrel
    have p0 := hbx.cell 0 rfl
    have p1 := hbx.cell 1 rfl
    have p2 := hbx.cell 2 rfl
    have p3 := hbx.cell 3 rfl
    have p4 := hbx.cell 4 rfl
    have p5 := hbx.cell 5 rfl
    have pl := hbx.lt
    by_cases hlt : i < j
    · have hh : (i + j) / 2 < m.length := by omega
      obtain ⟨b, o, A3, c3, rfl, h1, d0, d1, d2, d3, d4, d5, hc3, hs3⟩ := (hs.mono hbw).fnd_at hh
      have HC : Hid (∀ W, Below wr.heap.size wr W → Calls Tryz.prog 22 #[.agg #[.int .i64 m[(i + j) / 2].kind, .string m[(i + j) / 2].plc.cls, .string m[(i + j) / 2].plc.mth, .int .i64 m[(i + j) / 2].plc.ins, .string m[(i + j) / 2].what, .slice A3 m[(i + j) / 2].path.length c3], .agg #[.int .i64 x.kind, .string x.plc.cls, .string x.plc.mth, .int .i64 x.plc.ins, .string x.what, .slice B x.path.length d]] W fun e w' => e = .returned (.int .i64 (cmpF m[(i + j) / 2] x)) ∧ Below W.heap.size W w') := fun W h => cmpF_prog m[(i + j) / 2] x A3 B c3 d W (hok.out _ (List.getElem_mem hh)) hx (hs3.mono h) (hsx.mono (below_step hbw h))
      have HM1 := Lib.hid (below_all (x := x) hr.out hh)
      have HM2 := Lib.hid (above_all (x := x) hr.out hh)
      obtain ⟨g, HG⟩ : ∃ g, Hid (g = cmpF m[(i + j) / 2] x) := ⟨_, Lib.hid rfl⟩
      rw [← HG.out] at HC HM1 HM2
      clear HG
      by_cases hg : g < 0
      · have HLO2 := Lib.hid (HM1.out hg)
        clear HM1 HM2 HLO
        go_wp2_with fail
        refine wp_region_later (by kernel_rfl) (by kernel_rfl) ?_
        repeat (go_big_quiet_step ((go_at_call 22; exact Calls.later (HC.out _ (by exact (by repeat (first | assumption | exact Below.refl _ _ | apply bw_alloc | apply bw_drew | apply bw_drewN | apply bw_later | apply bw_step)))))))
        refine wpQuiet_nil ?_
        rintro _ ⟨z, rfl⟩
        have hbw2 := below_step hbw z.h
        go_wp2_with fail
        go_roundw
        case rel => exact ⟨(i + j) / 2 + 1, j, by go_num, rfl, by omega, hjm, HLO2, HHI, hbx.mono z.h, hbw2⟩
        case measure => simp [intOf]; omega
      · have HHI2 := Lib.hid (HM2.out hg)
        clear HM1 HM2 HHI
        go_wp2_with fail
        refine wp_region_later (by kernel_rfl) (by kernel_rfl) ?_
        repeat (go_big_quiet_step ((go_at_call 22; exact Calls.later (HC.out _ (by exact (by repeat (first | assumption | exact Below.refl _ _ | apply bw_alloc | apply bw_drew | apply bw_drewN | apply bw_later | apply bw_step)))))))
        refine wpQuiet_nil ?_
        rintro _ ⟨z, rfl⟩
        have hbw2 := below_step hbw z.h
        go_wp2_with fail
        go_roundw
        case rel => exact ⟨i, (i + j) / 2, rfl, by go_num, by omega, by omega, HLO, HHI2, hbx.mono z.h, hbw2⟩
        case measure => simp [intOf]; omega
    · obtain rfl : j = i := by omega
      by_cases hi : j < m.length
      · obtain ⟨b, o, A3, c3, rfl, h1, d0, d1, d2, d3, d4, d5, hc3, hs3⟩ := (hs.mono hbw).fnd_at hi
        have HC : Hid (∀ W, Below wr.heap.size wr W → Calls Tryz.prog 22 #[.agg #[.int .i64 m[j].kind, .string m[j].plc.cls, .string m[j].plc.mth, .int .i64 m[j].plc.ins, .string m[j].what, .slice A3 m[j].path.length c3], .agg #[.int .i64 x.kind, .string x.plc.cls, .string x.plc.mth, .int .i64 x.plc.ins, .string x.what, .slice B x.path.length d]] W fun e w' => e = .returned (.int .i64 (cmpF m[j] x)) ∧ Below W.heap.size W w') := fun W h => cmpF_prog m[j] x A3 B c3 d W (hok.out _ (List.getElem_mem hi)) hx (hs3.mono h) (hsx.mono (below_step hbw h))
        have HE := Lib.hid (HR.out.trans (hasF_at hr.out HLO.out HHI.out hi))
        obtain ⟨g, HG⟩ : ∃ g, Hid (g = cmpF m[j] x) := ⟨_, Lib.hid rfl⟩
        rw [← HG.out] at HC HE
        clear HG HLO HHI HR
        by_cases hg : g = 0
        · have tg : (g == 0) = true := by simp [hg]
          have HE2 : Hid (r = true) := by show _ = _; rw [HE.out, decide_eq_true hg]
          clear HE hg
          go_wp2_with fail
          refine wp_region_later (by kernel_rfl) (by kernel_rfl) ?_
          repeat (go_big_quiet_step ((go_at_call 22; exact Calls.later (HC.out _ (by exact (by repeat (first | assumption | exact Below.refl _ _ | apply bw_alloc | apply bw_drew | apply bw_drewN | apply bw_later | apply bw_step)))))))
          refine wpQuiet_nil ?_
          rintro _ ⟨z, rfl⟩
          have hbw2 := below_step hbw z.h
          go_wp2_with fail
          go_ret2
          exact ⟨⟨_, by rw [HE2.out]; rfl⟩, hbw2⟩
        · have tg : (g == 0) = false := by simp [hg]
          have HE2 : Hid (r = false) := by show _ = _; rw [HE.out, decide_eq_false hg]
          clear HE hg
          go_wp2_with fail
          refine wp_region_later (by kernel_rfl) (by kernel_rfl) ?_
          repeat (go_big_quiet_step ((go_at_call 22; exact Calls.later (HC.out _ (by exact (by repeat (first | assumption | exact Below.refl _ _ | apply bw_alloc | apply bw_drew | apply bw_drewN | apply bw_later | apply bw_step)))))))
          refine wpQuiet_nil ?_
          rintro _ ⟨z, rfl⟩
          have hbw2 := below_step hbw z.h
          go_wp2_with fail
          go_ret2
          exact ⟨⟨_, by rw [HE2.out]; rfl⟩, hbw2⟩
      · have HE2 : Hid (r = false) := by show _ = _; rw [HR.out]; exact hasF_end (fun k hk => HLO.out k hk (by omega))
        clear HLO HHI HR
        go_wp2_with fail
        refine wp_region_later (by kernel_rfl) (by kernel_rfl) ?_
        repeat (go_big_quiet_step (fail))
        refine wpQuiet_nil ?_
        rintro _ ⟨z, rfl⟩
        go_wp2_with fail
        go_ret2
        exact ⟨⟨_, by rw [HE2.out]; rfl⟩, below_step hbw z.h⟩
end Go.Proofs.YtlcdnkloijehjaaGreatDoor
