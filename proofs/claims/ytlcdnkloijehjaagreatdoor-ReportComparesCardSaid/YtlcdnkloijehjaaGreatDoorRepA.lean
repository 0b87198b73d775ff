/-
  Chapter 45: the order of places and findings: plain, in the program and in the reference. (Printed by wip/gen/repA.py.)
-/
import Derived.Test.YtlcdnkloijehjaaGreatDoorRepTy
import Derived.Test.YtlcdnkloijehjaaGreatDoorLexB
namespace Go.Proofs.YtlcdnkloijehjaaGreatDoor
open Go.RowKit
set_option linter.unusedVariables false

def cmpI (a b : Int) : Int := Lib.compareInt a b
def cmpS (a b : ByteArray) : Int := Lib.compareBytes a.data.toList b.data.toList
def thenI (c d : Int) : Int := if c = 0 then d else c
theorem thenI_z {c d : Int} (h : c = 0) : thenI c d = d := if_pos h
theorem thenI_n {c d : Int} (h : ¬ c = 0) : thenI c d = c := if_neg h
def cmpP (a b : Plc) : Int := thenI (cmpS a.cls b.cls) (thenI (cmpS a.mth b.mth) (cmpI a.ins b.ins))
def cmpPs : List Plc → List Plc → Int
  | [], [] => 0
  | [], _ :: _ => -1
  | _ :: _, [] => 1
  | a :: l, b :: m => thenI (cmpP a b) (cmpPs l m)
def cmpF (a b : Fnd) : Int := thenI (cmpP a.plc b.plc) (thenI (cmpI a.kind b.kind) (thenI (cmpS a.what b.what) (cmpPs a.path b.path)))
theorem cmpPs_step {l m : List Plc} {k : Nat} (h1 : k < l.length) (h2 : k < m.length) : cmpPs (l.drop k) (m.drop k) = thenI (cmpP l[k] m[k]) (cmpPs (l.drop (k + 1)) (m.drop (k + 1))) := by
  rw [List.drop_eq_getElem_cons h1, List.drop_eq_getElem_cons h2]
  rfl
theorem cmpPs_end {l m : List Plc} {k : Nat} (h : ¬ (k < l.length ∧ k < m.length)) : cmpPs (l.drop k) (m.drop k) = cmpI (l.drop k).length (m.drop k).length := by
  rcases Nat.lt_or_ge k l.length with h1 | h1
  · rcases Nat.lt_or_ge k m.length with h2 | h2
    · exact absurd ⟨h1, h2⟩ h
    · rw [List.drop_eq_getElem_cons h1, List.drop_eq_nil_of_le h2]
      unfold cmpPs cmpI Lib.compareInt
      simp only [List.length_cons, List.length_nil]
      rw [if_neg (by omega), if_pos (by omega)]
  · rw [List.drop_eq_nil_of_le h1]
    rcases Nat.lt_or_ge k m.length with h2 | h2
    · rw [List.drop_eq_getElem_cons h2]
      unfold cmpPs cmpI Lib.compareInt
      simp only [List.length_cons, List.length_nil]
      rw [if_pos (by omega)]
    · rw [List.drop_eq_nil_of_le h2]
      rfl
theorem cmpB_lt : ∀ {a b : List UInt8}, a < b → Lib.compareBytes a b = -1
  | [], [], h => absurd h (List.lt_irrefl _)
  | [], _ :: _, _ => rfl
  | a :: u, [], h => absurd h (List.not_lt_nil _)
  | a :: u, b :: v, h => by
    unfold Lib.compareBytes
    rcases List.cons_lt_cons_iff.1 h with h1 | ⟨h1, h2⟩
    · rw [if_pos h1]
    · subst h1
      rw [if_neg (UInt8.lt_irrefl _), if_neg (UInt8.lt_irrefl _)]
      exact cmpB_lt h2
theorem cmpB_gt : ∀ {a b : List UInt8}, b < a → Lib.compareBytes a b = 1
  | [], [], h => absurd h (List.lt_irrefl _)
  | [], _ :: _, h => absurd h (List.not_lt_nil _)
  | a :: u, [], _ => rfl
  | a :: u, b :: v, h => by
    unfold Lib.compareBytes
    rcases List.cons_lt_cons_iff.1 h with h1 | ⟨h1, h2⟩
    · rw [if_neg (fun h => UInt8.lt_irrefl _ (UInt8.lt_trans h h1)), if_pos h1]
    · subst h1
      rw [if_neg (UInt8.lt_irrefl _), if_neg (UInt8.lt_irrefl _)]
      exact cmpB_gt h2
theorem cmpB_self : ∀ (a : List UInt8), Lib.compareBytes a a = 0
  | [] => rfl
  | a :: u => by
    unfold Lib.compareBytes
    rw [if_neg (UInt8.lt_irrefl _), if_neg (UInt8.lt_irrefl _)]
    exact cmpB_self u
theorem ltS_ltR {a b : ByteArray} : (toL a < toL b) ↔ a.toList < b.toList := by unfold toL; rw [ByteArray.toList_eq, ByteArray.toList_eq]
theorem cmpI_prog (x y : Int) (w : World) : Calls Tryz.prog 61 #[.int .i64 x, .int .i64 y] w fun e w' => e = .returned (.int .i64 (cmpI x y)) ∧ w = w' :=
  (Tryz.cmp_Compare_int x y w).mono fun e w' ⟨h1, h2⟩ => ⟨h1, h2.symm⟩
theorem cmpS_prog (x y : ByteArray) (w : World) : Calls Tryz.prog 62 #[.string x, .string y] w fun e w' => e = .returned (.int .i64 (cmpS x y)) ∧ w = w' :=
  (Tryz.strings_Compare x y w).mono fun e w' ⟨h1, h2⟩ => ⟨h1, h2.symm⟩
theorem cmpI_ref (x y : Int) (w : World) : Calls Tryz.prog 66 #[.int .i64 x, .int .i64 y] w fun e w' => e = .returned (.int .i64 (cmpI x y)) ∧ w = w' := by
  obtain ⟨r, HR⟩ : ∃ r, Hid (r = cmpI x y) := ⟨_, Lib.hid rfl⟩
  rw [← HR.out]
  unfold cmpI Lib.compareInt at HR
  go_enter Tryz.func66, Tryz.ntmps66
  by_cases h1 : x < y
  · rw [if_pos h1] at HR
    go_wp2_with fail
    go_ret
    exact ⟨by rw [HR.out]; rfl, rfl⟩
  rw [if_neg h1] at HR
  by_cases h2 : y < x
  · rw [if_pos h2] at HR
    go_wp2_with fail
    go_ret
    exact ⟨by rw [HR.out]; rfl, rfl⟩
  rw [if_neg h2] at HR
  go_wp2_with fail
  go_ret
  exact ⟨by rw [HR.out]; rfl, rfl⟩
theorem cmpS_ref (x y : ByteArray) (w : World) : Calls Tryz.prog 67 #[.string x, .string y] w fun e w' => e = .returned (.int .i64 (cmpS x y)) ∧ w = w' := by
  obtain ⟨r, HR⟩ : ∃ r, Hid (r = cmpS x y) := ⟨_, Lib.hid rfl⟩
  rw [← HR.out]
  unfold cmpS at HR
  go_enter Tryz.func67, Tryz.ntmps67
  by_cases h1 : toL x < toL y
  · have HB : Hid (r = -1) := Lib.hid (HR.out.trans (cmpB_lt h1))
    have t1 : Op.bytesLess x.toList y.toList = true := by rw [bytesLess_eq]; exact decide_eq_true (ltS_ltR.1 h1)
    clear h1 HR
    go_wp2_with fail
    go_ret
    exact ⟨by rw [HB.out]; rfl, rfl⟩
  have t1 : Op.bytesLess x.toList y.toList = false := by rw [bytesLess_eq]; exact decide_eq_false (fun h => h1 (ltS_ltR.2 h))
  by_cases h2 : toL y < toL x
  · have HB : Hid (r = 1) := Lib.hid (HR.out.trans (cmpB_gt h2))
    have t2 : (x.toList == y.toList) = false := by
      rw [beq_eq_false_iff_ne]
      intro h
      rw [ByteArray.toList_eq, ByteArray.toList_eq] at h
      obtain rfl := toL_inj h
      exact ltL_irrefl _ h2
    clear h1 h2 HR
    go_wp2_with fail
    go_ret
    exact ⟨by rw [HB.out]; rfl, rfl⟩
  have he : x = y := toL_inj (List.le_antisymm (List.not_lt.1 h2) (List.not_lt.1 h1))
  have HB : Hid (r = 0) := Lib.hid (HR.out.trans (by rw [he]; exact cmpB_self _))
  have t2 : (x.toList == y.toList) = true := by rw [he]; simp
  clear h1 h2 he HR
  go_wp2_with fail
  go_ret
  exact ⟨by rw [HB.out]; rfl, rfl⟩
set_option maxHeartbeats 1000000 in
theorem cmpP_prog (a b : Plc) (w : World) : Calls Tryz.prog 60 #[.agg #[.string a.cls, .string a.mth, .int .i64 a.ins], .agg #[.string b.cls, .string b.mth, .int .i64 b.ins]] w fun e w' => e = .returned (.int .i64 (cmpP a b)) ∧ Below w.heap.size w w' := by
  obtain ⟨r, HR⟩ : ∃ r, Hid (r = cmpP a b) := ⟨_, Lib.hid rfl⟩
  rw [← HR.out]
  unfold cmpP at HR
  obtain ⟨c1, H1⟩ : ∃ r, Hid (r = cmpS a.cls b.cls) := ⟨_, Lib.hid rfl⟩
  obtain ⟨c2, H2⟩ : ∃ r, Hid (r = cmpS a.mth b.mth) := ⟨_, Lib.hid rfl⟩
  obtain ⟨c3, H3⟩ : ∃ r, Hid (r = cmpI a.ins b.ins) := ⟨_, Lib.hid rfl⟩
  have K1 := fun W => cmpS_prog a.cls b.cls W
  have K2 := fun W => cmpS_prog a.mth b.mth W
  have K3 := fun W => cmpI_prog a.ins b.ins W
  rw [← H1.out] at HR K1
  rw [← H2.out] at HR K2
  rw [← H3.out] at HR K3
  clear H1 H2 H3
  go_enter Tryz.func60, Tryz.ntmps60
  go_wp2_with fail
  refine (K1 _).mono ?_
  rintro e w1 ⟨rfl, rfl⟩
  by_cases h1 : c1 = 0
  · rw [thenI_z h1] at HR
    have t1 : (c1 != 0) = false := by simp [h1]
    clear h1
    go_wp2_with fail
    refine (K2 _).mono ?_
    rintro e w1 ⟨rfl, rfl⟩
    by_cases h2 : c2 = 0
    · rw [thenI_z h2] at HR
      have t2 : (c2 != 0) = false := by simp [h2]
      clear h2
      go_wp2_with fail
      refine (K3 _).mono ?_
      rintro e w1 ⟨rfl, rfl⟩
      go_wp2_with fail
      go_ret
      exact ⟨by rw [HR.out]; rfl, (by repeat (first | assumption | exact Below.refl _ _ | apply bw_alloc | apply bw_drew | apply bw_drewN | apply bw_later | apply bw_step))⟩
    · rw [thenI_n h2] at HR
      have t2 : (c2 != 0) = true := by simp [h2]
      clear h2
      go_wp2_with fail
      go_ret
      exact ⟨by rw [HR.out]; rfl, (by repeat (first | assumption | exact Below.refl _ _ | apply bw_alloc | apply bw_drew | apply bw_drewN | apply bw_later | apply bw_step))⟩
  · rw [thenI_n h1] at HR
    have t1 : (c1 != 0) = true := by simp [h1]
    clear h1
    go_wp2_with fail
    go_ret
    exact ⟨by rw [HR.out]; rfl, (by repeat (first | assumption | exact Below.refl _ _ | apply bw_alloc | apply bw_drew | apply bw_drewN | apply bw_later | apply bw_step))⟩
set_option maxHeartbeats 1000000 in
theorem cmpP_ref (a b : Plc) (w : World) : Calls Tryz.prog 65 #[.agg #[.string a.cls, .string a.mth, .int .i64 a.ins], .agg #[.string b.cls, .string b.mth, .int .i64 b.ins]] w fun e w' => e = .returned (.int .i64 (cmpP a b)) ∧ Below w.heap.size w w' := by
  obtain ⟨r, HR⟩ : ∃ r, Hid (r = cmpP a b) := ⟨_, Lib.hid rfl⟩
  rw [← HR.out]
  unfold cmpP at HR
  obtain ⟨c1, H1⟩ : ∃ r, Hid (r = cmpS a.cls b.cls) := ⟨_, Lib.hid rfl⟩
  obtain ⟨c2, H2⟩ : ∃ r, Hid (r = cmpS a.mth b.mth) := ⟨_, Lib.hid rfl⟩
  obtain ⟨c3, H3⟩ : ∃ r, Hid (r = cmpI a.ins b.ins) := ⟨_, Lib.hid rfl⟩
  have K1 := fun W => cmpS_ref a.cls b.cls W
  have K2 := fun W => cmpS_ref a.mth b.mth W
  have K3 := fun W => cmpI_ref a.ins b.ins W
  rw [← H1.out] at HR K1
  rw [← H2.out] at HR K2
  rw [← H3.out] at HR K3
  clear H1 H2 H3
  go_enter Tryz.func65, Tryz.ntmps65
  go_wp2_with fail
  refine (K1 _).mono ?_
  rintro e w1 ⟨rfl, rfl⟩
  by_cases h1 : c1 = 0
  · rw [thenI_z h1] at HR
    have t1 : (c1 != 0) = false := by simp [h1]
    clear h1
    go_wp2_with fail
    refine (K2 _).mono ?_
    rintro e w1 ⟨rfl, rfl⟩
    by_cases h2 : c2 = 0
    · rw [thenI_z h2] at HR
      have t2 : (c2 != 0) = false := by simp [h2]
      clear h2
      go_wp2_with fail
      refine (K3 _).mono ?_
      rintro e w1 ⟨rfl, rfl⟩
      go_wp2_with fail
      go_ret
      exact ⟨by rw [HR.out]; rfl, (by repeat (first | assumption | exact Below.refl _ _ | apply bw_alloc | apply bw_drew | apply bw_drewN | apply bw_later | apply bw_step))⟩
    · rw [thenI_n h2] at HR
      have t2 : (c2 != 0) = true := by simp [h2]
      clear h2
      go_wp2_with fail
      go_ret
      exact ⟨by rw [HR.out]; rfl, (by repeat (first | assumption | exact Below.refl _ _ | apply bw_alloc | apply bw_drew | apply bw_drewN | apply bw_later | apply bw_step))⟩
  · rw [thenI_n h1] at HR
    have t1 : (c1 != 0) = true := by simp [h1]
    clear h1
    go_wp2_with fail
    go_ret
    exact ⟨by rw [HR.out]; rfl, (by repeat (first | assumption | exact Below.refl _ _ | apply bw_alloc | apply bw_drew | apply bw_drewN | apply bw_later | apply bw_step))⟩
end Go.Proofs.YtlcdnkloijehjaaGreatDoor
