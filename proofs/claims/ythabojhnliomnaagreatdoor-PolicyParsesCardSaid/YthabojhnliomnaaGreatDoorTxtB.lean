/-
  Chapter 41: the text of a path of a rule, both sides. (Printed by wip/gen/txtB.py.)
-/
import Derived.Test.YthabojhnliomnaaGreatDoorTxtA
import Derived.Test.YthabojhnliomnaaGreatDoorPolF
namespace Go.Proofs.YthabojhnliomnaaGreatDoor
open Go.RowKit
set_option linter.unusedVariables false

theorem digit_small {m : Nat} (h : m ≤ 6) : (Lib.decDigits m) = [48 + UInt8.ofNat m] := by
  rcases (show m = 0 ∨ m = 1 ∨ m = 2 ∨ m = 3 ∨ m = 4 ∨ m = 5 ∨ m = 6 by omega) with rfl | rfl | rfl | rfl | rfl | rfl | rfl
  all_goals kernel_rfl
def RetTx (l : List UInt8) (e : Ending) : Prop := e = .returned (.tuple #[.string (bsOf l), .int .i64 0])
theorem retTx {l : List UInt8} {t : ByteArray} (h : toL t = l) : RetTx l (.returned (.tuple #[.string t, .int .i64 0])) := by unfold RetTx; rw [bsOf_toL h]
theorem fldT_take {l : List ByteArray} {k : Nat} (h : k < l.length) : fldT (l.take (k + 1)) = fldT (l.take k) ++ (46 :: toL l[k]) := flat_take _ h
theorem itoa_v {m : Nat} (h : m ≤ 6) (w : World) : Calls Tryz.prog 81 #[.int .i64 m] w fun e w' => e = .returned (.string ⟨(Lib.decDigits m).toArray⟩) ∧ w = w' :=
  (Tryz.strconv_Itoa_small m (by omega) w).mono fun e w' ⟨h1, h2⟩ => ⟨h1, h2.symm⟩
theorem refNum_v {m : Nat} (h : m ≤ 6) (w : World) : Calls Tryz.prog 85 #[.int .i64 m] w fun e w' => e = .returned (.string ⟨(Lib.decDigits m).toArray⟩) ∧ w = w' := by
  rcases (show m = 0 ∨ m = 1 ∨ m = 2 ∨ m = 3 ∨ m = 4 ∨ m = 5 ∨ m = 6 by omega) with rfl | rfl | rfl | rfl | rfl | rfl | rfl
  all_goals (rw [digit_small (by omega)]; go_enter Tryz.func85, Tryz.ntmps85; go_wp2_with fail; refine wp_loop_rounds 1 ?_; rw [rounds_succ]; go_wp2_with fail; go_ret; exact ⟨by kernel_rfl, rfl⟩)
set_option maxRecDepth 100000 in
set_option maxHeartbeats 4000000 in
theorem acpText_v (x : Acp) (A : Option Addr) (c : Nat) (w : World) (hkw : KwX w) (hv : Hid (AcpV x)) (hs : Sl Lay.str w A x.fields) :
    Calls Tryz.prog 32 #[.agg #[.int .i64 x.root, .int .i64 x.n, .slice A x.fields.length c, .bool x.star]] w fun e w' => RetTx (acpT x) e ∧ Below w.heap.size w w' := by
  have HSZ := Lib.hid hv.out.sz
  have HCH := Lib.hid (fun W h => acpCheck_any x A c W (by have := hv.out.len; omega) (hkw.mono h) (hs.mono h) (Lib.hid (fun y hy => by have := hv.out.sz y hy; omega)))
  rw [hv.out.ok] at HCH
  have hroot := hv.out.root
  have hn0 := hv.out.n0
  have hn6 := hv.out.n6
  have hlen := hv.out.len
  obtain ⟨R, HR⟩ : ∃ R, Hid (R = acpT x) := ⟨_, Lib.hid rfl⟩
  rw [← HR.out]
  obtain ⟨rt, n, fs, st⟩ := x
  simp only at hroot hn0 hn6 hlen hs HCH HSZ ⊢
  obtain ⟨m, rfl⟩ : ∃ m : Nat, n = m := ⟨n.toNat, by omega⟩
  have hm6 : m ≤ 6 := by omega
  have bx0 := Box.new w [.int .i64 rt, .int .i64 m, .slice A fs.length c, .bool st] 49
  have hb0 : Below w.heap.size w (w.alloc (.cells #[.int .i64 rt, .int .i64 m, .slice A fs.length c, .bool st] 49)) := (by repeat (first | assumption | exact Below.refl _ _ | apply bw_alloc | apply bw_drew | apply bw_drewN | apply bw_later | apply bw_step))
  obtain ⟨T0, HT0⟩ : ∃ T0 : List UInt8, Hid (T0 = rootT ⟨rt, m, fs, st⟩) := ⟨_, Lib.hid rfl⟩
  have HR2 : Hid (R = T0 ++ fldT fs ++ (if st then [42] else [])) := by show _ = _; rw [HR.out, HT0.out]; rfl
  clear HR
  go_enter Tryz.func32, Tryz.ntmps32
  go_wp2_with fail
  refine (HCH.out _ hb0).mono ?_
  rintro e w1 ⟨rfl, hb1⟩
  have bx1 := bx0.mono hb1
  have hbw1 := below_step hb0 hb1
  have hs1 := hs.mono hbw1
  clear bx0 hb0 hb1 HCH
  have p0 := bx1.cell 0 rfl
  have p1 := bx1.cell 1 rfl
  have p2 := bx1.cell 2 rfl
  have p3 := bx1.cell 3 rfl
  have pl := bx1.lt
  clear hn0 hn6
  rcases hroot with rfl | rfl
  · obtain ⟨D, HD, hD⟩ : ∃ D : ByteArray, Hid (D = ⟨(Lib.decDigits m).toArray⟩) ∧ D.size ≤ 1 := ⟨_, Lib.hid rfl, by rw [digit_small hm6]; exact Nat.le_refl 1⟩
    have HI : Hid (∀ W, Calls Tryz.prog 81 #[.int .i64 m] W fun e w' => e = .returned (.string D) ∧ W = w') := fun W => by rw [HD.out]; exact itoa_v hm6 W
    have HST : Hid (toL ((⟨#[97, 114, 103]⟩ : ByteArray) ++ D) = T0 ++ fldT (fs.take 0)) := by
      show _ = _
      rw [HT0.out, toL_app, HD.out]
      unfold rootT wArg
      rw [if_pos rfl]
      simp [fldT, toL]
    clear HT0 HD
    go_wp2_with fail
    refine (HI.out _).mono ?_
    rintro e w2 ⟨rfl, rfl⟩
    go_wp2_with fail
    go_loop [5, 36] (fun v5 i => ∃ (k : Nat) (t : ByteArray), k ≤ fs.length ∧ i = .int .i64 k ∧ v5 = .string t ∧ t.size ≤ 10 + 33 * k ∧ Hid (toL t = T0 ++ fldT (fs.take k))) (fun _ i => fs.length - (intOf i).toNat)
    case atStart => exact ⟨0, _, Nat.zero_le _, rfl, rfl, by simp only [ByteArray.size_append, ByteArray.size_mk']; simp; omega, HST⟩
    case round =>
      obtain ⟨k, t, hk, rfl, rfl, hts, HT⟩ := hrel
      by_cases hlt : k < fs.length
      · obtain ⟨b, o, rfl, hb, d0⟩ := hs1.str_at hlt
        have hsz := HSZ.out _ (List.getElem_mem hlt)
        have HN : Hid (toL (t ++ ((⟨#[46]⟩ : ByteArray) ++ fs[k])) = T0 ++ fldT (fs.take (k + 1))) := by
          show _ = _
          rw [fldT_take hlt]
          simp only [toL_app, HT.out, List.append_assoc]
          rfl
        have hns : (t ++ ((⟨#[46]⟩ : ByteArray) ++ fs[k])).size ≤ 10 + 33 * (k + 1) := by simp only [ByteArray.size_append, ByteArray.size_mk']; simp; omega
        go_wp2_with fail
        go_round
        case rel => exact ⟨k + 1, _, by omega, by go_num, rfl, hns, HN⟩
        case measure => simp [intOf]; omega
      · obtain rfl : k = fs.length := by omega
        rw [List.take_length] at HT
        cases hst : st with
        | true =>
          rw [hst] at p3
          have HE : Hid (toL (t ++ ⟨#[42]⟩) = R) := by show _ = _; rw [HR2.out, toL_app, HT.out, hst]; rfl
          go_wp2_with fail
          go_ret2
          exact ⟨retTx HE.out, hbw1⟩
        | false =>
          rw [hst] at p3
          have HE : Hid (toL t = R) := by show _ = _; rw [HR2.out, HT.out, hst]; simp
          go_wp2_with fail
          go_ret2
          exact ⟨retTx HE.out, hbw1⟩
  · have HST : Hid (toL (⟨#[114, 101, 115, 117, 108, 116]⟩ : ByteArray) = T0 ++ fldT (fs.take 0)) := by
      show _ = _
      rw [HT0.out]
      unfold rootT wRes
      rw [if_neg (by simp)]
      simp [fldT, toL]
    clear HT0
    go_wp2_with fail
    go_loop [5, 36] (fun v5 i => ∃ (k : Nat) (t : ByteArray), k ≤ fs.length ∧ i = .int .i64 k ∧ v5 = .string t ∧ t.size ≤ 10 + 33 * k ∧ Hid (toL t = T0 ++ fldT (fs.take k))) (fun _ i => fs.length - (intOf i).toNat)
    case atStart => exact ⟨0, _, Nat.zero_le _, rfl, rfl, by decide, HST⟩
    case round =>
      obtain ⟨k, t, hk, rfl, rfl, hts, HT⟩ := hrel
      by_cases hlt : k < fs.length
      · obtain ⟨b, o, rfl, hb, d0⟩ := hs1.str_at hlt
        have hsz := HSZ.out _ (List.getElem_mem hlt)
        have HN : Hid (toL (t ++ ((⟨#[46]⟩ : ByteArray) ++ fs[k])) = T0 ++ fldT (fs.take (k + 1))) := by
          show _ = _
          rw [fldT_take hlt]
          simp only [toL_app, HT.out, List.append_assoc]
          rfl
        have hns : (t ++ ((⟨#[46]⟩ : ByteArray) ++ fs[k])).size ≤ 10 + 33 * (k + 1) := by simp only [ByteArray.size_append, ByteArray.size_mk']; simp; omega
        go_wp2_with fail
        go_round
        case rel => exact ⟨k + 1, _, by omega, by go_num, rfl, hns, HN⟩
        case measure => simp [intOf]; omega
      · obtain rfl : k = fs.length := by omega
        rw [List.take_length] at HT
        cases hst : st with
        | true =>
          rw [hst] at p3
          have HE : Hid (toL (t ++ ⟨#[42]⟩) = R) := by show _ = _; rw [HR2.out, toL_app, HT.out, hst]; rfl
          go_wp2_with fail
          go_ret2
          exact ⟨retTx HE.out, hbw1⟩
        | false =>
          rw [hst] at p3
          have HE : Hid (toL t = R) := by show _ = _; rw [HR2.out, HT.out, hst]; simp
          go_wp2_with fail
          go_ret2
          exact ⟨retTx HE.out, hbw1⟩
set_option maxRecDepth 100000 in
set_option maxHeartbeats 4000000 in
theorem refAcpText_v (x : Acp) (A : Option Addr) (c : Nat) (w : World) (hv : Hid (AcpV x)) (hs : Sl Lay.str w A x.fields) :
    Calls Tryz.prog 39 #[.agg #[.int .i64 x.root, .int .i64 x.n, .slice A x.fields.length c, .bool x.star]] w fun e w' => RetTx (acpT x) e ∧ Below w.heap.size w w' := by
  have HSZ := Lib.hid hv.out.sz
  have HCH := Lib.hid (fun W h => refAcpCheck_any x A c W (by have := hv.out.len; omega) (hs.mono h) (Lib.hid (fun y hy => by have := hv.out.sz y hy; omega)))
  rw [hv.out.ok] at HCH
  have hroot := hv.out.root
  have hn0 := hv.out.n0
  have hn6 := hv.out.n6
  have hlen := hv.out.len
  obtain ⟨R, HR⟩ : ∃ R, Hid (R = acpT x) := ⟨_, Lib.hid rfl⟩
  rw [← HR.out]
  obtain ⟨rt, n, fs, st⟩ := x
  simp only at hroot hn0 hn6 hlen hs HCH HSZ ⊢
  obtain ⟨m, rfl⟩ : ∃ m : Nat, n = m := ⟨n.toNat, by omega⟩
  have hm6 : m ≤ 6 := by omega
  have bx0 := Box.new w [.int .i64 rt, .int .i64 m, .slice A fs.length c, .bool st] 49
  have hb0 : Below w.heap.size w (w.alloc (.cells #[.int .i64 rt, .int .i64 m, .slice A fs.length c, .bool st] 49)) := (by repeat (first | assumption | exact Below.refl _ _ | apply bw_alloc | apply bw_drew | apply bw_drewN | apply bw_later | apply bw_step))
  obtain ⟨T0, HT0⟩ : ∃ T0 : List UInt8, Hid (T0 = rootT ⟨rt, m, fs, st⟩) := ⟨_, Lib.hid rfl⟩
  have HR2 : Hid (R = T0 ++ fldT fs ++ (if st then [42] else [])) := by show _ = _; rw [HR.out, HT0.out]; rfl
  clear HR
  go_enter Tryz.func39, Tryz.ntmps39
  go_wp2_with fail
  refine (HCH.out _ hb0).mono ?_
  rintro e w1 ⟨rfl, hb1⟩
  have bx1 := bx0.mono hb1
  have hbw1 := below_step hb0 hb1
  have hs1 := hs.mono hbw1
  clear bx0 hb0 hb1 HCH
  have p0 := bx1.cell 0 rfl
  have p1 := bx1.cell 1 rfl
  have p2 := bx1.cell 2 rfl
  have p3 := bx1.cell 3 rfl
  have pl := bx1.lt
  clear hn0 hn6
  rcases hroot with rfl | rfl
  · obtain ⟨D, HD, hD⟩ : ∃ D : ByteArray, Hid (D = ⟨(Lib.decDigits m).toArray⟩) ∧ D.size ≤ 1 := ⟨_, Lib.hid rfl, by rw [digit_small hm6]; exact Nat.le_refl 1⟩
    have HI : Hid (∀ W, Calls Tryz.prog 85 #[.int .i64 m] W fun e w' => e = .returned (.string D) ∧ W = w') := fun W => by rw [HD.out]; exact refNum_v hm6 W
    have HST : Hid (toL ((⟨#[97, 114, 103]⟩ : ByteArray) ++ D) = T0 ++ fldT (fs.take 0)) := by
      show _ = _
      rw [HT0.out, toL_app, HD.out]
      unfold rootT wArg
      rw [if_pos rfl]
      simp [fldT, toL]
    clear HT0 HD
    go_wp2_with fail
    refine (HI.out _).mono ?_
    rintro e w2 ⟨rfl, rfl⟩
    go_wp2_with fail
    go_loop [5, 6] (fun v5 i => ∃ (k : Nat) (t : ByteArray), k ≤ fs.length ∧ i = .int .i64 k ∧ v5 = .string t ∧ t.size ≤ 10 + 33 * k ∧ Hid (toL t = T0 ++ fldT (fs.take k))) (fun _ i => fs.length - (intOf i).toNat)
    case atStart => exact ⟨0, _, Nat.zero_le _, rfl, rfl, by simp only [ByteArray.size_append, ByteArray.size_mk']; simp; omega, HST⟩
    case round =>
      obtain ⟨k, t, hk, rfl, rfl, hts, HT⟩ := hrel
      by_cases hlt : k < fs.length
      · obtain ⟨b, o, rfl, hb, d0⟩ := hs1.str_at hlt
        have hsz := HSZ.out _ (List.getElem_mem hlt)
        have HN : Hid (toL ((t ++ ⟨#[46]⟩) ++ fs[k]) = T0 ++ fldT (fs.take (k + 1))) := by
          show _ = _
          rw [fldT_take hlt]
          simp only [toL_app, HT.out, List.append_assoc]
          rfl
        have hns : ((t ++ ⟨#[46]⟩) ++ fs[k]).size ≤ 10 + 33 * (k + 1) := by simp only [ByteArray.size_append, ByteArray.size_mk']; simp; omega
        go_wp2_with fail
        go_round
        case rel => exact ⟨k + 1, _, by omega, by go_num, rfl, hns, HN⟩
        case measure => simp [intOf]; omega
      · obtain rfl : k = fs.length := by omega
        rw [List.take_length] at HT
        cases hst : st with
        | true =>
          rw [hst] at p3
          have HE : Hid (toL (t ++ ⟨#[42]⟩) = R) := by show _ = _; rw [HR2.out, toL_app, HT.out, hst]; rfl
          go_wp2_with fail
          go_ret2
          exact ⟨retTx HE.out, hbw1⟩
        | false =>
          rw [hst] at p3
          have HE : Hid (toL t = R) := by show _ = _; rw [HR2.out, HT.out, hst]; simp
          go_wp2_with fail
          go_ret2
          exact ⟨retTx HE.out, hbw1⟩
  · have HST : Hid (toL (⟨#[114, 101, 115, 117, 108, 116]⟩ : ByteArray) = T0 ++ fldT (fs.take 0)) := by
      show _ = _
      rw [HT0.out]
      unfold rootT wRes
      rw [if_neg (by simp)]
      simp [fldT, toL]
    clear HT0
    go_wp2_with fail
    go_loop [5, 6] (fun v5 i => ∃ (k : Nat) (t : ByteArray), k ≤ fs.length ∧ i = .int .i64 k ∧ v5 = .string t ∧ t.size ≤ 10 + 33 * k ∧ Hid (toL t = T0 ++ fldT (fs.take k))) (fun _ i => fs.length - (intOf i).toNat)
    case atStart => exact ⟨0, _, Nat.zero_le _, rfl, rfl, by decide, HST⟩
    case round =>
      obtain ⟨k, t, hk, rfl, rfl, hts, HT⟩ := hrel
      by_cases hlt : k < fs.length
      · obtain ⟨b, o, rfl, hb, d0⟩ := hs1.str_at hlt
        have hsz := HSZ.out _ (List.getElem_mem hlt)
        have HN : Hid (toL ((t ++ ⟨#[46]⟩) ++ fs[k]) = T0 ++ fldT (fs.take (k + 1))) := by
          show _ = _
          rw [fldT_take hlt]
          simp only [toL_app, HT.out, List.append_assoc]
          rfl
        have hns : ((t ++ ⟨#[46]⟩) ++ fs[k]).size ≤ 10 + 33 * (k + 1) := by simp only [ByteArray.size_append, ByteArray.size_mk']; simp; omega
        go_wp2_with fail
        go_round
        case rel => exact ⟨k + 1, _, by omega, by go_num, rfl, hns, HN⟩
        case measure => simp [intOf]; omega
      · obtain rfl : k = fs.length := by omega
        rw [List.take_length] at HT
        cases hst : st with
        | true =>
          rw [hst] at p3
          have HE : Hid (toL (t ++ ⟨#[42]⟩) = R) := by show _ = _; rw [HR2.out, toL_app, HT.out, hst]; rfl
          go_wp2_with fail
          go_ret2
          exact ⟨retTx HE.out, hbw1⟩
        | false =>
          rw [hst] at p3
          have HE : Hid (toL t = R) := by show _ = _; rw [HR2.out, HT.out, hst]; simp
          go_wp2_with fail
          go_ret2
          exact ⟨retTx HE.out, hbw1⟩
end Go.Proofs.YthabojhnliomnaaGreatDoor
