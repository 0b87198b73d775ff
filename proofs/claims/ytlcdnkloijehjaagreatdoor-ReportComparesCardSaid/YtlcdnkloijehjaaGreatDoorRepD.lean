/-
  Chapter 45: the checks of places and of What, in the program and in the reference.
-/
import Derived.Test.YtlcdnkloijehjaaGreatDoorRepC
namespace Go.Proofs.YtlcdnkloijehjaaGreatDoor
open Go.RowKit
set_option linter.unusedVariables false

def plcE (x : Plc) : Int := if !(identB x.cls && identB x.mth) then 5 else if x.ins < 0 ∨ 1024 ≤ x.ins then 4 else 0
/-- A byte that can be seen. -/
def prtU (c : UInt8) : Bool := decide (33 ≤ c.toNat) && decide (c.toNat ≤ 126)
def wordB (s : ByteArray) : Bool := decide (1 ≤ s.size) && decide (s.size ≤ 32) && (toL s).all prtU
def wTrue : ByteArray := ⟨#[116, 114, 117, 101]⟩
def wFalse : ByteArray := ⟨#[102, 97, 108, 115, 101]⟩
def whatB (k : Int) (s : ByteArray) : Bool := if k = 2 ∨ k = 3 then identB s else if k = 4 then s.toList == wTrue.toList || s.toList == wFalse.toList else wordB s
def OkPlc (x : Plc) : Prop := x.cls.size ≤ 9223372036854775807 ∧ x.mth.size ≤ 9223372036854775807

set_option maxHeartbeats 1000000 in
theorem checkPlace_any (x : Plc) (w : World) (hok : OkPlc x) (hkw : KwX w) :
    Calls Tryz.prog 58 #[.agg #[.string x.cls, .string x.mth, .int .i64 x.ins]] w fun e w' => e = .returned (.int .i64 (plcE x)) ∧ Below w.heap.size w w' := by
  obtain ⟨r, HR⟩ : ∃ r, Hid (r = plcE x) := ⟨_, Lib.hid rfl⟩
  rw [← HR.out]
  unfold plcE at HR
  obtain ⟨o1, o2⟩ := hok
  obtain ⟨cl, mt, n⟩ := x
  simp only at HR o1 o2 ⊢
  have hb0 : Below w.heap.size w (w.alloc (.cells #[.string cl, .string mt, .int .i64 n] 43)) := (by repeat (first | assumption | exact Below.refl _ _ | apply bw_alloc | apply bw_drew | apply bw_drewN | apply bw_later | apply bw_step))
  have hkw0 := hkw.mono hb0
  have K1 := ident_any cl _ o1 hkw0
  have K2 := ident_any mt _ o2 hkw0
  generalize identB cl = p at *
  generalize identB mt = q at *
  go_enter Tryz.func58, Tryz.ntmps58
  go_wp2_with fail
  refine K1.mono ?_
  rintro e w1 ⟨rfl, rfl⟩
  cases p with
  | false =>
    go_wp2_with fail
    go_ret
    exact ⟨by rw [HR.out]; rfl, hb0⟩
  | true =>
    go_wp2_with fail
    refine K2.mono ?_
    rintro e w1 ⟨rfl, rfl⟩
    cases q with
    | false =>
      go_wp2_with fail
      go_ret
      exact ⟨by rw [HR.out]; rfl, hb0⟩
    | true =>
      by_cases h1 : n < 0
      · have HB : Hid (r = 4) := by show _ = _; rw [HR.out]; simp [h1]
        clear HR
        go_wp2_with fail
        go_ret
        exact ⟨by rw [HB.out]; rfl, hb0⟩
      by_cases h2 : 1024 ≤ n
      · have HB : Hid (r = 4) := by show _ = _; rw [HR.out]; simp [h2]
        clear HR
        go_wp2_with fail
        go_ret
        exact ⟨by rw [HB.out]; rfl, hb0⟩
      have HB : Hid (r = 0) := by show _ = _; rw [HR.out]; simp [h1, h2]
      clear HR
      go_wp2_with fail
      go_ret
      exact ⟨by rw [HB.out]; rfl, hb0⟩
set_option maxHeartbeats 1000000 in
theorem refPlace_any (x : Plc) (w : World) (hok : OkPlc x) :
    Calls Tryz.prog 89 #[.agg #[.string x.cls, .string x.mth, .int .i64 x.ins]] w fun e w' => e = .returned (.int .i64 (plcE x)) ∧ Below w.heap.size w w' := by
  obtain ⟨r, HR⟩ : ∃ r, Hid (r = plcE x) := ⟨_, Lib.hid rfl⟩
  rw [← HR.out]
  unfold plcE at HR
  obtain ⟨o1, o2⟩ := hok
  obtain ⟨cl, mt, n⟩ := x
  simp only at HR o1 o2 ⊢
  have hbx := Box.new w [.string cl, .string mt, .int .i64 n] 43
  have hb0 : Below w.heap.size w (w.alloc (.cells #[.string cl, .string mt, .int .i64 n] 43)) := (by repeat (first | assumption | exact Below.refl _ _ | apply bw_alloc | apply bw_drew | apply bw_drewN | apply bw_later | apply bw_step))
  have K1 := fun W => refIdent_any cl W o1
  have K2 := fun W => refIdent_any mt W o2
  generalize identB cl = p at *
  generalize identB mt = q at *
  go_enter Tryz.func89, Tryz.ntmps89
  go_wp2_with fail
  refine (K1 _).mono ?_
  rintro e w1 ⟨rfl, hb1⟩
  have hbx1 := hbx.mono hb1
  have hbw1 := below_step hb0 hb1
  have x1 := hbx1.cell 1 rfl
  cases p with
  | false =>
    go_wp2_with fail
    go_ret
    exact ⟨by rw [HR.out]; rfl, hbw1⟩
  | true =>
    go_wp2_with fail
    refine (K2 _).mono ?_
    rintro e w2 ⟨rfl, hb2⟩
    have hbx2 := hbx1.mono hb2
    have hbw2 := below_step hbw1 hb2
    have x2 := hbx2.cell 2 rfl
    cases q with
    | false =>
      go_wp2_with fail
      go_ret
      exact ⟨by rw [HR.out]; rfl, hbw2⟩
    | true =>
      by_cases h1 : n < 0
      · have HB : Hid (r = 4) := by show _ = _; rw [HR.out]; simp [h1]
        clear HR
        go_wp2_with fail
        go_ret
        exact ⟨by rw [HB.out]; rfl, hbw2⟩
      by_cases h2 : 1024 ≤ n
      · have HB : Hid (r = 4) := by show _ = _; rw [HR.out]; simp [h2]
        clear HR
        go_wp2_with fail
        go_ret
        exact ⟨by rw [HB.out]; rfl, hbw2⟩
      have HB : Hid (r = 0) := by show _ = _; rw [HR.out]; simp [h1, h2]
      clear HR
      go_wp2_with fail
      go_ret
      exact ⟨by rw [HB.out]; rfl, hbw2⟩
end Go.Proofs.YtlcdnkloijehjaaGreatDoor
