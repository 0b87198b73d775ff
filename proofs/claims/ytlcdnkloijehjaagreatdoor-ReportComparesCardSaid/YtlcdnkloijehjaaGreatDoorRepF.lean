/-
  Chapter 45: the check of a finding, in the program and in the reference.
-/
import Derived.Test.YtlcdnkloijehjaaGreatDoorRepE
namespace Go.Proofs.YtlcdnkloijehjaaGreatDoor
open Go.RowKit
set_option linter.unusedVariables false

theorem plc_neq (a b : ByteArray) (c : Int) (a' b' : ByteArray) (c' : Int) (w : World) : (binOp .neq 43 (.agg #[.string a, .string b, .int .i64 c]) (.agg #[.string a', .string b', .int .i64 c'])).run Tryz.prog w = .ok (.bool (!(a.toList == a'.toList && b.toList == b'.toList && c == c'))) w := by
  by_cases h1 : a.toList = a'.toList <;> by_cases h2 : b.toList = b'.toList <;> by_cases h3 : c = c' <;> simp [go_sem, h1, h2, h3]
def samePlc (a b : Plc) : Bool := a.cls.toList == b.cls.toList && a.mth.toList == b.mth.toList && a.ins == b.ins
/-- The first error of a path. -/
def pathE : List Plc → Int
  | [] => 0
  | x :: l => thenI (plcE x) (pathE l)
theorem pathE_step {l : List Plc} {k : Nat} (h : k < l.length) : pathE (l.drop k) = thenI (plcE l[k]) (pathE (l.drop (k + 1))) := by
  rw [List.drop_eq_getElem_cons h]
  rfl
theorem pathE_end {l : List Plc} {k : Nat} (h : ¬ k < l.length) : pathE (l.drop k) = 0 := by
  rw [List.drop_eq_nil_of_le (by omega)]
  rfl
def endsB (x : Fnd) : Bool := match x.path.getLast? with | none => false | some y => samePlc y x.plc
def fndE (x : Fnd) : Int := if x.kind < 1 ∨ 4 < x.kind then 12 else thenI (plcE x.plc) (thenI (pathE x.path) (if whatB x.kind x.what then (if 4097 < x.path.length then 3 else if endsB x then 0 else 16) else 5))
def OkFnd (x : Fnd) : Prop := OkPlc x.plc ∧ x.what.size ≤ 9223372036854775807 ∧ x.path.length ≤ 9223372036854775807 ∧ ∀ y ∈ x.path, OkPlc y
theorem endsB_at {x : Fnd} {n : Nat} (h : x.path.length = n + 1) : endsB x = samePlc (x.path[n]'(by omega)) x.plc := by
  unfold endsB
  have e : x.path[x.path.length - 1]? = some (x.path[n]'(by omega)) := by
    rw [show x.path.length - 1 = n by omega, List.getElem?_eq_getElem (by omega)]
  rw [List.getLast?_eq_getElem?, e]
theorem endsB_nil {x : Fnd} (h : x.path.length = 0) : endsB x = false := by
  unfold endsB
  rw [List.eq_nil_of_length_eq_zero h]
  rfl
set_option maxHeartbeats 4000000 in
set_option maxRecDepth 100000 in
theorem fndCheck_any (x : Fnd) (A : Option Addr) (c : Nat) (w : World) (hok : Hid (OkFnd x)) (hkw : KwX w) (hs : Sl Lay.plc w A x.path) :
    Calls Tryz.prog 21 #[.agg #[.int .i64 x.kind, .string x.plc.cls, .string x.plc.mth, .int .i64 x.plc.ins, .string x.what, .slice A x.path.length c]] w fun e w' => e = .returned (.int .i64 (fndE x)) ∧ Below w.heap.size w w' := by
  obtain ⟨r, HR⟩ : ∃ r, Hid (r = fndE x) := ⟨_, Lib.hid rfl⟩
  rw [← HR.out]
  obtain ⟨o1, o2, o3, o4⟩ := hok.out
  have HE0 := Lib.hid (fun h => endsB_nil (x := x) h)
  have HE1 := Lib.hid (fun n h => endsB_at (x := x) (n := n) h)
  clear hok
  unfold fndE at HR
  generalize endsB x = ends at *
  obtain ⟨xk, xp, xw, xl⟩ := x
  simp only at HR o1 o2 o3 HE0 HE1 hs o4 ⊢
  have HO := Lib.hid o4
  clear o4
  have hbx : Box (w.alloc (.cells #[.int .i64 xk, .string xp.cls, .string xp.mth, .int .i64 xp.ins, .string xw, .slice A xl.length c] 46)) w.heap.size [.int .i64 xk, .string xp.cls, .string xp.mth, .int .i64 xp.ins, .string xw, .slice A xl.length c] 46 := Box.new _ _ _
  have hbw : Below w.heap.size w (w.alloc (.cells #[.int .i64 xk, .string xp.cls, .string xp.mth, .int .i64 xp.ins, .string xw, .slice A xl.length c] 46)) := (by repeat (first | assumption | exact Below.refl _ _ | apply bw_alloc | apply bw_drew | apply bw_drewN | apply bw_later | apply bw_step))
  go_enter Tryz.func21, Tryz.ntmps21
  by_cases k1 : xk < 1
  · have HB : Hid (r = 12) := by show _ = _; rw [HR.out, if_pos (Or.inl k1)]
    go_wp2_with fail
    go_ret
    exact ⟨by rw [HB.out]; rfl, hbw⟩
  by_cases k2 : 4 < xk
  · have HB : Hid (r = 12) := by show _ = _; rw [HR.out, if_pos (Or.inr k2)]
    go_wp2_with fail
    go_ret
    exact ⟨by rw [HB.out]; rfl, hbw⟩
  rw [if_neg (by omega)] at HR
  have HC : Hid (∀ W, Below w.heap.size w W → Calls Tryz.prog 58 #[.agg #[.string xp.cls, .string xp.mth, .int .i64 xp.ins]] W fun e w' => e = .returned (.int .i64 (plcE xp)) ∧ Below W.heap.size W w') := fun W h => checkPlace_any xp W o1 (hkw.mono h)
  obtain ⟨q, HQ⟩ : ∃ q, Hid (q = plcE xp) := ⟨_, Lib.hid rfl⟩
  rw [← HQ.out] at HR HC
  go_wp2_with fail
  refine (HC.out _ hbw).mono ?_
  rintro e w1 ⟨rfl, hb1⟩
  have hbx1 := hbx.mono hb1
  have hbw1 := below_step hbw hb1
  clear hbx hbw HC HQ
  by_cases hq : q = 0
  · rw [thenI_z hq] at HR
    have tq : (q != 0) = false := by simp [hq]
    clear hq
    have x5 := hbx1.cell 5 rfl
    have pl := hbx1.lt
    go_wp2_with fail
    go_loopw [25] (fun i wr => ∃ k : Nat, k ≤ xl.length ∧ i = .int .i64 k ∧ Hid (r = thenI (pathE (xl.drop k)) (if whatB xk xw then (if 4097 < xl.length then 3 else if ends then 0 else 16) else 5)) ∧ Box wr w.heap.size [.int .i64 xk, .string xp.cls, .string xp.mth, .int .i64 xp.ins, .string xw, .slice A xl.length c] 46 ∧ Below w.heap.size w wr) (fun i _ => xl.length - (intOf i).toNat)
    case atStart => exact ⟨0, Nat.zero_le _, rfl, HR, hbx1, hbw1⟩
    case round =>
      clear HR hbx1 hbw1 x5 pl
      obtain ⟨k, hk, rfl, HR, hbx, hbw⟩ := hrel
      by_cases hlt : k < xl.length
      · obtain ⟨b, o, rfl, h1, d0, d1, d2⟩ := (hs.mono hbw).plc_at hlt
        have HC : Hid (∀ W, Below w.heap.size w W → Calls Tryz.prog 58 #[.agg #[.string xl[k].cls, .string xl[k].mth, .int .i64 xl[k].ins]] W fun e w' => e = .returned (.int .i64 (plcE xl[k])) ∧ Below W.heap.size W w') := fun W h => checkPlace_any xl[k] W (HO.out _ (List.getElem_mem hlt)) (hkw.mono h)
        have HS := Lib.hid (pathE_step hlt)
        obtain ⟨g, HG⟩ : ∃ g, Hid (g = plcE xl[k]) := ⟨_, Lib.hid rfl⟩
        rw [← HG.out] at HS HC
        rw [HS.out] at HR
        clear HS HG
        go_wp2_with fail
        refine (HC.out _ (bw_alloc hbw)).mono ?_
        rintro e w2 ⟨rfl, hb2⟩
        have hbx2 := (hbx.alloc _).mono hb2
        have hbw2 := below_step (bw_alloc hbw) hb2
        by_cases hg : g = 0
        · rw [thenI_z hg] at HR
          have tg : (g != 0) = false := by simp [hg]
          clear hg
          go_wp2_with fail
          go_roundw
          case rel => exact ⟨k + 1, by omega, by go_num, HR, hbx2, hbw2⟩
          case measure => simp [intOf]; omega
        · rw [thenI_n hg, thenI_n hg] at HR
          have tg : (g != 0) = true := by simp [hg]
          clear hg
          go_wp2_with fail
          go_ret
          exact ⟨by rw [HR.out]; rfl, hbw2⟩
      · rw [pathE_end hlt, thenI_z rfl] at HR
        have x0 := hbx.cell 0 rfl
        have x1 := hbx.cell 1 rfl
        have x2 := hbx.cell 2 rfl
        have x3 := hbx.cell 3 rfl
        have x4 := hbx.cell 4 rfl
        have x5 := hbx.cell 5 rfl
        have pl := hbx.lt
        have K := validWhat_any xk xw wr o2 (hkw.mono hbw)
        generalize whatB xk xw = v at *
        go_wp2_with fail
        refine K.mono ?_
        rintro e w2 ⟨rfl, rfl⟩
        cases v with
        | false =>
          go_wp2_with fail
          go_ret
          exact ⟨by rw [HR.out]; rfl, hbw⟩
        | true =>
          by_cases hbig : 4097 < xl.length
          · have HB : Hid (r = 3) := by show _ = _; rw [HR.out]; simp [hbig]
            have hbig' : 4097 < (xl.length : Int) := by omega
            go_wp2_with fail
            go_ret
            exact ⟨by rw [HB.out]; rfl, hbw⟩
          have HB : Hid (r = if ends then 0 else 16) := by show _ = _; rw [HR.out]; simp [hbig]
          have hbig' : ¬ 4097 < (xl.length : Int) := by omega
          clear HR
          by_cases hz : xl.length = 0
          · have HB2 : Hid (r = 16) := by show _ = _; rw [HB.out, HE0.out hz]; rfl
            have hz' : ((xl.length : Int) == 0) = true := by simp [hz]
            clear HB hz
            go_wp2_with fail
            refine wp_region_later (by kernel_rfl) (by kernel_rfl) ?_
            repeat (go_big_quiet_step (fail))
            refine wpQuiet_nil ?_
            rintro _ ⟨z, rfl⟩
            go_wp2_with fail
            go_ret
            exact ⟨by rw [HB2.out]; rfl, below_step hbw z.h⟩
          · have hz' : ((xl.length : Int) == 0) = false := by simpa using hz
            obtain ⟨n, hn⟩ : ∃ n, xl.length = n + 1 := ⟨xl.length - 1, by omega⟩
            have hnl : n < xl.length := by omega
            obtain ⟨b, o, rfl, h1, d0, d1, d2⟩ := (hs.mono hbw).plc_at hnl
            have e1 : ((xl.length : Int) - 1) = (n : Int) := by omega
            obtain ⟨tt, HT⟩ : ∃ tt, Hid (tt = (xl[n].cls.toList == xp.cls.toList && xl[n].mth.toList == xp.mth.toList && xl[n].ins == xp.ins)) := ⟨_, Lib.hid rfl⟩
            have HB2 : Hid (r = if tt then 0 else 16) := by show _ = _; rw [HB.out, HE1.out n hn, HT.out]; rfl
            have hpn := fun W => plc_neq xl[n].cls xl[n].mth xl[n].ins xp.cls xp.mth xp.ins W
            rw [← HT.out] at hpn
            clear HB hn hz HT
            cases tt with
            | true =>
              go_wp2_with fail
              refine wp_region_later (by kernel_rfl) (by kernel_rfl) ?_
              repeat (go_big_quiet_step (fail))
              refine wpQuiet_nil ?_
              rintro _ ⟨z, rfl⟩
              go_wp2_with fail
              go_ret
              exact ⟨by rw [HB2.out]; rfl, below_step hbw z.h⟩
            | false =>
              go_wp2_with fail
              refine wp_region_later (by kernel_rfl) (by kernel_rfl) ?_
              repeat (go_big_quiet_step (fail))
              refine wpQuiet_nil ?_
              rintro _ ⟨z, rfl⟩
              go_wp2_with fail
              go_ret
              exact ⟨by rw [HB2.out]; rfl, below_step hbw z.h⟩
  · rw [thenI_n hq] at HR
    have tq : (q != 0) = true := by simp [hq]
    clear hq
    go_wp2_with fail
    go_ret
    exact ⟨by rw [HR.out]; rfl, hbw1⟩
end Go.Proofs.YtlcdnkloijehjaaGreatDoor
