/-
  Chapter 13: number, setField.
  Chapter 13: instrOf: the instruction of a line.
-/
import Derived.Test.YticpeombillmeaaGreatDoorJIp
import Derived.Test.YticpeombillmeaaGreatDoorJIrT
import Derived.Test.YticpeombillmeaaGreatDoorJShelfB
import Derived.Test.YticpeombillmeaaGreatDoorJIrB
namespace Go.Proofs.YticpeombillmeaaGreatDoor
open Go.RowKit
set_option linter.unusedVariables false

theorem bytes_orI {w w' : World} {e : TypeId} (h : w' = w ∨ ∃ t, w' = Lib.bytesWorld w e t) : Below w.heap.size w w' := by
  rcases h with rfl | ⟨t, rfl⟩
  · exact Below.refl _ _
  · exact Lib.bytesWorld_below _ _ _
/-- What ParseInt returns. -/
def RetPI (l : List UInt8) (e : Ending) : Prop := ∃ (n : Int) (v : Value), e = .returned (.tuple #[.int .i64 n, v]) ∧ ((Lib.parseIntB 64 l = .ok n ∧ v = .nilIface) ∨ ((∀ n, Lib.parseIntB 64 l ≠ .ok n) ∧ ∃ t p, v = .iface t p))
theorem parseInt_any (s : ByteArray) (w : World) (hg : Gl3 w) (hs : s.size ≤ 2000000) : Calls Tryz.prog 134 #[.string s, .int .i64 10, .int .i64 64] w fun e w' => RetPI (toL s) e ∧ Below w.heap.size w w' := by
  obtain ⟨t, p, he⟩ := hg.es
  obtain ⟨t', p', he'⟩ := hg.er
  cases h : Lib.parseIntB 64 (toL s)
  case ok v =>
    refine (Tryz.strconv_ParseInt_10_at64_ok s (by omega) v h w).mono ?_
    rintro e w' ⟨rfl, hb⟩
    exact ⟨⟨v, _, rfl, Or.inl ⟨h, rfl⟩⟩, bytes_orI hb⟩
  case range =>
    refine (Tryz.strconv_ParseInt_10_at64_range s (by omega) h _ w he' (Or.inr ⟨t', p', rfl⟩)).mono ?_
    rintro e w' ⟨N, rfl, _, _, hb⟩
    exact ⟨⟨_, _, rfl, Or.inr ⟨(fun n hn => by rw [h] at hn; cases hn), _, _, rfl⟩⟩, hb⟩
  · refine (Tryz.strconv_ParseInt_10_at64_bad s (by omega) (fun n (hn : Lib.parseIntB 64 (toL s) = .ok n) => by rw [h] at hn; cases hn) (fun (hn : Lib.parseIntB 64 (toL s) = .range) => by rw [h] at hn; cases hn) _ w he (Or.inr ⟨t, p, rfl⟩)).mono ?_
    rintro e w' ⟨N, rfl, _, _, hb⟩
    exact ⟨⟨_, _, rfl, Or.inr ⟨(fun n hn => by rw [h] at hn; cases hn), _, _, rfl⟩⟩, hb⟩
/-- What number returns. -/
def RetN (o : Option Int) (e : Ending) : Prop := ∃ n : Int, e = .returned (.tuple #[.int .i64 n, .bool o.isSome]) ∧ ∀ v, o = some v → v = n
set_option maxHeartbeats 2000000 in
theorem number_any (s : ByteArray) (w : World) (hg : Gl3 w) (hs : s.size ≤ 2000000) : Calls Tryz.prog 86 #[.string s] w fun e w' => RetN (numI s) e ∧ Below w.heap.size w w' := by
  obtain ⟨R, HR⟩ : ∃ R, Hid (R = numI s) := ⟨_, Lib.hid rfl⟩
  rw [← HR.out]
  have HP := Lib.hid (parseInt_any s w hg hs)
  have HF := Lib.hid (fun n W h hn => fmtInt_any n W hn (hg.mono h))
  go_enter Tryz.func86, Tryz.ntmps86
  go_wp2_with fail
  refine HP.out.mono ?_
  rintro e w1 ⟨⟨n, v, rfl, hv⟩, hb1⟩
  rcases hv with ⟨h1, rfl⟩ | ⟨h1, t, p, rfl⟩
  · by_cases hd : dg n = toL s
    · have HB : Hid (R = some n) := by show _ = _; rw [HR.out]; exact numI_iff.2 ⟨parseI_range h1, hd⟩
      have ht : ((bsOf (dg n)).toList == s.toList) = true := by rw [beq_iff_eq, toList_toL, toList_toL, hd]; rfl
      have hr := parseI_range h1
      clear h1 hd
      go_wp2_with fail
      refine (HF.out n _ hb1 hr).mono ?_
      rintro e w2 ⟨rfl, hb2⟩
      go_wp2_with fail
      go_ret2
      exact ⟨⟨n, by rw [HB.out]; rfl, fun v hv => by rw [HB.out] at hv; injection hv with hv; exact hv.symm⟩, below_step hb1 hb2⟩
    · have HB : Hid (R = none) := by
        show _ = _
        rw [HR.out]
        cases h : numI s with
        | none => rfl
        | some v =>
          obtain ⟨h2, h3⟩ := numI_iff.1 h
          rw [← h3, parseI_dg h2] at h1
          injection h1 with h1
          exact absurd (by rw [← h1, h3]) hd
      have ht : ((bsOf (dg n)).toList == s.toList) = false := beq_eq_false_iff_ne.2 (fun h => hd (by rw [toList_toL, toList_toL] at h; exact h))
      have hr := parseI_range h1
      clear h1 hd
      go_wp2_with fail
      refine (HF.out n _ hb1 hr).mono ?_
      rintro e w2 ⟨rfl, hb2⟩
      go_wp2_with fail
      go_ret2
      exact ⟨⟨n, by rw [HB.out]; rfl, fun v hv => by rw [HB.out] at hv; cases hv⟩, below_step hb1 hb2⟩
  · have HB : Hid (R = none) := by
      show _ = _
      rw [HR.out]
      cases h : numI s with
      | none => rfl
      | some v =>
        obtain ⟨h2, h3⟩ := numI_iff.1 h
        have := h1 v
        rw [← h3, parseI_dg h2] at this
        exact absurd rfl this
    clear h1
    go_wp2_with fail
    go_ret2
    exact ⟨⟨n, by rw [HB.out]; rfl, fun v hv => by rw [HB.out] at hv; cases hv⟩, hb1⟩

/-! ### setField -/
def insC (x : Ins) (A : Option Addr) (c : Nat) : List Value := [.int .i64 x.op, .int .i64 x.dst, .int .i64 x.a, .int .i64 x.b, .int .i64 x.n, .string x.cls, .string x.name, .slice A x.args.length c, .int .i64 x.jmp, .int .i64 x.hnd]
/-- What setField returns: the instruction's box with the field, or false. -/
def SetR (W W' : World) (b : Nat) (x : Ins) (A : Option Addr) (c : Nat) (o : Option Ins) (e : Ending) : Prop := e = .returned (.bool o.isSome) ∧ (∀ y, o = some y → Box W' b (insC y A c) 47) ∧ W.heap.size ≤ W'.heap.size ∧ (∀ B, B ≤ b → B ≤ W.heap.size → Below B W W') ∧ ∃ y, Box W' b (insC y A c) 47
theorem setCell_below {W : World} {b i : Nat} (v : Value) : W.heap.size ≤ (W.setCell ⟨b, i, none⟩ v).heap.size ∧ ∀ B, B ≤ b → B ≤ W.heap.size → Below B W (W.setCell ⟨b, i, none⟩ v) :=
  ⟨by simp [World.setCell], fun B hB _ => (Below.refl B W).setCell (p := ⟨b, i, none⟩) hB v⟩
theorem below_more {W W1 W2 : World} {b : Nat} (h1 : Below W.heap.size W W1) (h2 : W1.heap.size ≤ W2.heap.size ∧ ∀ B, B ≤ b → B ≤ W1.heap.size → Below B W1 W2) : W.heap.size ≤ W2.heap.size ∧ ∀ B, B ≤ b → B ≤ W.heap.size → Below B W W2 :=
  ⟨Nat.le_trans h1.size h2.1, fun B hB hW => (h1.mono hW).trans (h2.2 B hB (Nat.le_trans hW h1.size))⟩
set_option maxRecDepth 100000 in
set_option maxHeartbeats 8000000 in
theorem setField_num {W : World} {b : Nat} {x : Ins} {A : Option Addr} {c : Nat} (ch : UInt8) (k : Nat) (w : ByteArray) (hg : Gl3 W) (hw : w.size ≤ 2000000) (hb : Box W b (insC x A c) 47) (hch : ch = 100 ∨ ch = 97 ∨ ch = 98 ∨ ch = 110 ∨ ch = 103) :
    Calls Tryz.prog 88 #[.pointer (some ⟨b, 0, none⟩), .int .u8 ch.toNat, .string w] W fun e w' => SetR W w' b x A c (setF x ch w) e := by
  obtain ⟨R, HR⟩ : ∃ R, Hid (R = setF x ch w) := ⟨_, Lib.hid rfl⟩
  rw [← HR.out]
  have HN := Lib.hid (number_any w W hg hw)
  have HRN : Hid (R = (numI w).map (setN x ch)) := by
    show _ = _
    rw [HR.out]
    unfold setF
    rcases hch with rfl | rfl | rfl | rfl | rfl <;> rfl
  clear HR
  unfold insC at hb
  rcases hch with rfl | rfl | rfl | rfl | rfl
  · go_enter Tryz.func88, Tryz.ntmps88
    go_wp2_with fail
    refine HN.out.mono ?_
    rintro e w1 ⟨⟨n, rfl, hn⟩, hb1⟩
    have hx := hb.mono hb1
    have q := hx.cell 1 rfl
    have ql := hx.lt
    have qf := fun i => hx.free i
    have HX : Hid (Box (w1.setCell ⟨b, 1, none⟩ (.int .i64 n)) b (insC { x with dst := n } A c) 47) := Lib.hid (hx.set 1 (.int .i64 n))
    have HB := Lib.hid (below_more (b := b) hb1 (setCell_below (W := w1) (b := b) (i := 1) (.int .i64 n)))
    have HI : Hid ((numI w).isSome = R.isSome) := by show _ = _; rw [HRN.out]; cases numI w <;> rfl
    have HY : Hid (∀ y, R = some y → y = { x with dst := n }) := fun y hy => by
      rw [HRN.out] at hy
      obtain ⟨v, hv, rfl⟩ := Option.map_eq_some_iff.1 hy
      rw [hn v hv]
      rfl
    rw [HI.out]
    clear hn HN HRN HI hb hx hb1
    go_wp2_with fail
    go_ret
    exact ⟨rfl, fun y hy => by rw [HY.out y hy]; exact HX.out, HB.out.1, HB.out.2, _, HX.out⟩
  · go_enter Tryz.func88, Tryz.ntmps88
    go_wp2_with fail
    refine HN.out.mono ?_
    rintro e w1 ⟨⟨n, rfl, hn⟩, hb1⟩
    have hx := hb.mono hb1
    have q := hx.cell 2 rfl
    have ql := hx.lt
    have qf := fun i => hx.free i
    have HX : Hid (Box (w1.setCell ⟨b, 2, none⟩ (.int .i64 n)) b (insC { x with a := n } A c) 47) := Lib.hid (hx.set 2 (.int .i64 n))
    have HB := Lib.hid (below_more (b := b) hb1 (setCell_below (W := w1) (b := b) (i := 2) (.int .i64 n)))
    have HI : Hid ((numI w).isSome = R.isSome) := by show _ = _; rw [HRN.out]; cases numI w <;> rfl
    have HY : Hid (∀ y, R = some y → y = { x with a := n }) := fun y hy => by
      rw [HRN.out] at hy
      obtain ⟨v, hv, rfl⟩ := Option.map_eq_some_iff.1 hy
      rw [hn v hv]
      rfl
    rw [HI.out]
    clear hn HN HRN HI hb hx hb1
    go_wp2_with fail
    go_ret
    exact ⟨rfl, fun y hy => by rw [HY.out y hy]; exact HX.out, HB.out.1, HB.out.2, _, HX.out⟩
  · go_enter Tryz.func88, Tryz.ntmps88
    go_wp2_with fail
    refine HN.out.mono ?_
    rintro e w1 ⟨⟨n, rfl, hn⟩, hb1⟩
    have hx := hb.mono hb1
    have q := hx.cell 3 rfl
    have ql := hx.lt
    have qf := fun i => hx.free i
    have HX : Hid (Box (w1.setCell ⟨b, 3, none⟩ (.int .i64 n)) b (insC { x with b := n } A c) 47) := Lib.hid (hx.set 3 (.int .i64 n))
    have HB := Lib.hid (below_more (b := b) hb1 (setCell_below (W := w1) (b := b) (i := 3) (.int .i64 n)))
    have HI : Hid ((numI w).isSome = R.isSome) := by show _ = _; rw [HRN.out]; cases numI w <;> rfl
    have HY : Hid (∀ y, R = some y → y = { x with b := n }) := fun y hy => by
      rw [HRN.out] at hy
      obtain ⟨v, hv, rfl⟩ := Option.map_eq_some_iff.1 hy
      rw [hn v hv]
      rfl
    rw [HI.out]
    clear hn HN HRN HI hb hx hb1
    go_wp2_with fail
    go_ret
    exact ⟨rfl, fun y hy => by rw [HY.out y hy]; exact HX.out, HB.out.1, HB.out.2, _, HX.out⟩
  · go_enter Tryz.func88, Tryz.ntmps88
    go_wp2_with fail
    refine HN.out.mono ?_
    rintro e w1 ⟨⟨n, rfl, hn⟩, hb1⟩
    have hx := hb.mono hb1
    have q := hx.cell 4 rfl
    have ql := hx.lt
    have qf := fun i => hx.free i
    have HX : Hid (Box (w1.setCell ⟨b, 4, none⟩ (.int .i64 n)) b (insC { x with n := n } A c) 47) := Lib.hid (hx.set 4 (.int .i64 n))
    have HB := Lib.hid (below_more (b := b) hb1 (setCell_below (W := w1) (b := b) (i := 4) (.int .i64 n)))
    have HI : Hid ((numI w).isSome = R.isSome) := by show _ = _; rw [HRN.out]; cases numI w <;> rfl
    have HY : Hid (∀ y, R = some y → y = { x with n := n }) := fun y hy => by
      rw [HRN.out] at hy
      obtain ⟨v, hv, rfl⟩ := Option.map_eq_some_iff.1 hy
      rw [hn v hv]
      rfl
    rw [HI.out]
    clear hn HN HRN HI hb hx hb1
    go_wp2_with fail
    go_ret
    exact ⟨rfl, fun y hy => by rw [HY.out y hy]; exact HX.out, HB.out.1, HB.out.2, _, HX.out⟩
  · go_enter Tryz.func88, Tryz.ntmps88
    go_wp2_with fail
    refine HN.out.mono ?_
    rintro e w1 ⟨⟨n, rfl, hn⟩, hb1⟩
    have hx := hb.mono hb1
    have q := hx.cell 8 rfl
    have ql := hx.lt
    have qf := fun i => hx.free i
    have HX : Hid (Box (w1.setCell ⟨b, 8, none⟩ (.int .i64 n)) b (insC { x with jmp := n } A c) 47) := Lib.hid (hx.set 8 (.int .i64 n))
    have HB := Lib.hid (below_more (b := b) hb1 (setCell_below (W := w1) (b := b) (i := 8) (.int .i64 n)))
    have HI : Hid ((numI w).isSome = R.isSome) := by show _ = _; rw [HRN.out]; cases numI w <;> rfl
    have HY : Hid (∀ y, R = some y → y = { x with jmp := n }) := fun y hy => by
      rw [HRN.out] at hy
      obtain ⟨v, hv, rfl⟩ := Option.map_eq_some_iff.1 hy
      rw [hn v hv]
      rfl
    rw [HI.out]
    clear hn HN HRN HI hb hx hb1
    go_wp2_with fail
    go_ret
    exact ⟨rfl, fun y hy => by rw [HY.out y hy]; exact HX.out, HB.out.1, HB.out.2, _, HX.out⟩
theorem setField_str {W : World} {b : Nat} {x : Ins} {A : Option Addr} {c : Nat} (ch : UInt8) (w : ByteArray) (hb : Box W b (insC x A c) 47) (hch : ch = 99 ∨ ch = 109) :
    Calls Tryz.prog 88 #[.pointer (some ⟨b, 0, none⟩), .int .u8 ch.toNat, .string w] W fun e w' => SetR W w' b x A c (setF x ch w) e := by
  unfold insC at hb
  have ql := hb.lt
  have qf := fun i => hb.free i
  have q5 := hb.cell 5 rfl
  have q6 := hb.cell 6 rfl
  rcases hch with rfl | rfl
  · have HX : Hid (Box (W.setCell ⟨b, 5, none⟩ (.string w)) b (insC { x with cls := w } A c) 47) := Lib.hid (hb.set 5 (.string w))
    have HB := Lib.hid (setCell_below (W := W) (b := b) (i := 5) (.string w))
    have HS : Hid (setF x 99 w = some { x with cls := w }) := rfl
    rw [HS.out]
    go_enter Tryz.func88, Tryz.ntmps88
    go_wp2_with fail
    go_ret
    exact ⟨rfl, fun y hy => by injection hy with hy; rw [← hy]; exact HX.out, HB.out.1, HB.out.2, _, HX.out⟩
  · have HX : Hid (Box (W.setCell ⟨b, 6, none⟩ (.string w)) b (insC { x with name := w } A c) 47) := Lib.hid (hb.set 6 (.string w))
    have HB := Lib.hid (setCell_below (W := W) (b := b) (i := 6) (.string w))
    have HS : Hid (setF x 109 w = some { x with name := w }) := rfl
    rw [HS.out]
    go_enter Tryz.func88, Tryz.ntmps88
    go_wp2_with fail
    go_ret
    exact ⟨rfl, fun y hy => by injection hy with hy; rw [← hy]; exact HX.out, HB.out.1, HB.out.2, _, HX.out⟩
theorem opIdx (a0 a1 a2 a3 a4 : ByteArray) (w : World) (i : Nat) (hi : i < 5) : (Instr.index 97 (.agg #[.string a0, .string a1, .string a2, .string a3, .string a4]) (.int .i64 (i : Int))).run Tryz.prog w = .ok (.string ([a0, a1, a2, a3, a4].getD i ⟨#[]⟩)) w :=
  match i, hi with
  | 0, _ => by kernel_rfl
  | 1, _ => by kernel_rfl
  | 2, _ => by kernel_rfl
  | 3, _ => by kernel_rfl
  | 4, _ => by kernel_rfl
  | n + 5, h => absurd h (by omega)
theorem find_none {l : List ByteArray} {w : ByteArray} (hno : ∀ j (hj : j < l.length), (w.toList == l[j].toList) = false) : l.findIdx? (fun o => w.toList == o.toList) = none := by
  rw [List.findIdx?_eq_none_iff]
  intro o ho
  obtain ⟨j, hj, rfl⟩ := List.getElem_of_mem ho
  exact hno j hj
theorem find_some {l : List ByteArray} {w : ByteArray} {k : Nat} (hk : k < l.length) (hno : ∀ j (hj : j < l.length), j < k → (w.toList == l[j].toList) = false) (hy : (w.toList == l[k].toList) = true) : l.findIdx? (fun o => w.toList == o.toList) = some k := by
  rw [List.findIdx?_eq_some_iff_getElem]
  exact ⟨hk, hy, fun j hj => by rw [hno j (by omega) hj]; simp⟩
set_option maxRecDepth 100000 in
set_option maxHeartbeats 8000000 in
theorem setField_op {W : World} {b : Nat} {x : Ins} {A : Option Addr} {c : Nat} (w : ByteArray) (hg : Gl3 W) (hb : Box W b (insC x A c) 47) :
    Calls Tryz.prog 88 #[.pointer (some ⟨b, 0, none⟩), .int .u8 111, .string w] W fun e w' => SetR W w' b x A c (setF x 111 w) e := by
  obtain ⟨R, HR⟩ : ∃ R, Hid (R = setF x 111 w) := ⟨_, Lib.hid rfl⟩
  rw [← HR.out]
  rw [setF_op] at HR
  have o0 := hg.ox 0 (by decide)
  have o1 := hg.ox 1 (by decide)
  have o2 := hg.ox 2 (by decide)
  have o3 := hg.ox 3 (by decide)
  have o4 := hg.ox 4 (by decide)
  have ol := cell_lt o0
  have HIX : Hid (∀ (i : Nat) (hi : i < opersB.length) (w : World), (Instr.index 97 (.agg #[.string opersB[0], .string opersB[1], .string opersB[2], .string opersB[3], .string opersB[4]]) (.int .i64 (i : Int))).run Tryz.prog w = .ok (.string opersB[i]) w) := fun i hi w => by
    have h5 : i < 5 := hi
    exact match i, h5, hi with
      | 0, _, _ => opIdx _ _ _ _ _ w 0 (by decide)
      | 1, _, _ => opIdx _ _ _ _ _ w 1 (by decide)
      | 2, _, _ => opIdx _ _ _ _ _ w 2 (by decide)
      | 3, _, _ => opIdx _ _ _ _ _ w 3 (by decide)
      | 4, _, _ => opIdx _ _ _ _ _ w 4 (by decide)
      | n + 5, h, _ => absurd h (by omega)
  have hq4 := hb
  unfold insC at hq4
  have q4 := hq4.cell 4 rfl
  have ql := hb.lt
  have qf := fun i => hb.free i
  clear hq4
  go_enter Tryz.func88, Tryz.ntmps88
  go_wp2_with fail
  clear o0 o1 o2 o3 o4 ol
  go_loop [27] (fun i => ∃ k : Nat, k ≤ 5 ∧ i = .int .i64 k ∧ Hid (∀ j (hj : j < opersB.length), j < k → (w.toList == opersB[j].toList) = false)) (fun i => 5 - (intOf i).toNat)
  case atStart => exact ⟨0, Nat.zero_le _, rfl, fun j hj h => by omega⟩
  case round =>
    obtain ⟨k, hk, rfl, HNO⟩ := hrel
    by_cases h5 : k < 5
    · have hlt : k < opersB.length := h5
      have h5i : (k : Int) < 5 := by omega
      have hix := fun w => HIX.out k hlt w
      obtain ⟨y, HY⟩ : ∃ y, Hid (y = opersB[k]) := ⟨_, Lib.hid rfl⟩
      rw [← HY.out] at hix
      cases ht : (w.toList == y.toList) with
      | true =>
        have HS : Hid (R = some { x with n := (k : Int) + 1 }) := by
          show _ = _
          rw [HR.out, show operOf w = some k from find_some hlt HNO.out (by rw [← HY.out]; exact ht), Int.add_comm]
          rfl
        have HX : Hid (Box (W.setCell ⟨b, 4, none⟩ (.int .i64 ((k : Int) + 1))) b (insC { x with n := (k : Int) + 1 } A c) 47) := Lib.hid (hb.set 4 (.int .i64 ((k : Int) + 1)))
        have HB := Lib.hid (setCell_below (W := W) (b := b) (i := 4) (.int .i64 ((k : Int) + 1)))
        have hcm : (1 : Int) + k = (k : Int) + 1 := Int.add_comm _ _
        clear HR HNO HIX
        go_wp2_with fail
        (first | go_ret | ((try simp only [Exit.inBlock, Exit.then]); refine bodyPost_ret (results_none rfl _ _ _) rfl ?_))
        exact ⟨by rw [HS.out]; rfl, fun y hy => by rw [HS.out] at hy; injection hy with hy; rw [← hy]; exact HX.out, HB.out.1, HB.out.2, _, HX.out⟩
      | false =>
        have HN2 : Hid (∀ j (hj : j < opersB.length), j < k + 1 → (w.toList == opersB[j].toList) = false) := fun j hj h => by
          rcases (show j < k ∨ j = k by omega) with h1 | rfl
          · exact HNO.out j hj h1
          · rw [← HY.out]; exact ht
        go_wp2_with fail
        go_round
        case rel => exact ⟨k + 1, by omega, by go_num, HN2⟩
        case measure => simp [intOf]; omega
    · have HS : Hid (R = none) := by
        show _ = _
        rw [HR.out, show operOf w = none from find_none (fun j hj => HNO.out j hj (by have : opersB.length = 5 := rfl; omega))]
        rfl
      have h5i : ¬ (k : Int) < 5 := by omega
      have HB := Lib.hid hb
      clear HR HNO HIX
      go_wp2_with fail
      (first | go_ret | ((try simp only [Exit.inBlock, Exit.then]); refine bodyPost_ret (results_none rfl _ _ _) rfl ?_))
      exact ⟨by rw [HS.out]; rfl, fun y hy => (by rw [HS.out] at hy; cases hy), Nat.le_refl _, fun B _ _ => Below.refl _ _, _, HB.out⟩
end Go.Proofs.YticpeombillmeaaGreatDoor
namespace Go.Proofs.YticpeombillmeaaGreatDoor
open Go.RowKit
set_option linter.unusedVariables false

theorem setField_any {W : World} {b : Nat} {x : Ins} {A : Option Addr} {c : Nat} (ch : UInt8) (w : ByteArray) (hg : Gl3 W) (hw : w.size ≤ 2000000) (hb : Box W b (insC x A c) 47) (hch : Ltr ch) :
    Calls Tryz.prog 88 #[.pointer (some ⟨b, 0, none⟩), .int .u8 ch.toNat, .string w] W fun e w' => SetR W w' b x A c (setF x ch w) e := by
  rcases hch with rfl | rfl | rfl | rfl | rfl | rfl | rfl | rfl
  · exact setField_num 100 0 w hg hw hb (by simp)
  · exact setField_num 97 0 w hg hw hb (by simp)
  · exact setField_num 98 0 w hg hw hb (by simp)
  · exact setField_num 110 0 w hg hw hb (by simp)
  · exact setField_op w hg hb
  · exact setField_str 99 w hb (by simp)
  · exact setField_str 109 w hb (by simp)
  · exact setField_num 103 0 w hg hw hb (by simp)
theorem Box.store10 {w : World} {b : Nat} {a0 a1 a2 a3 a4 a5 a6 a7 a8 a9 : Value} {t : TypeId} (h : Box w b [a0, a1, a2, a3, a4, a5, a6, a7, a8, a9] t) (v0 v1 v2 v3 v4 v5 v6 v7 v8 v9 : Value) :
    Box ((((((((((w.setCell ⟨b, 0, none⟩ v0).setCell ⟨b, 1, none⟩ v1).setCell ⟨b, 2, none⟩ v2).setCell ⟨b, 3, none⟩ v3).setCell ⟨b, 4, none⟩ v4).setCell ⟨b, 5, none⟩ v5).setCell ⟨b, 6, none⟩ v6).setCell ⟨b, 7, none⟩ v7).setCell ⟨b, 8, none⟩ v8).setCell ⟨b, 9, none⟩ v9) b [v0, v1, v2, v3, v4, v5, v6, v7, v8, v9] t ∧ w.grownBy ((((((((((w.setCell ⟨b, 0, none⟩ v0).setCell ⟨b, 1, none⟩ v1).setCell ⟨b, 2, none⟩ v2).setCell ⟨b, 3, none⟩ v3).setCell ⟨b, 4, none⟩ v4).setCell ⟨b, 5, none⟩ v5).setCell ⟨b, 6, none⟩ v6).setCell ⟨b, 7, none⟩ v7).setCell ⟨b, 8, none⟩ v8).setCell ⟨b, 9, none⟩ v9) (some b) :=
  ⟨(((((((((h.set 0 v0).set 1 v1).set 2 v2).set 3 v3).set 4 v4).set 5 v5).set 6 v6).set 7 v7).set 8 v8).set 9 v9, grown_trans (grown_trans (grown_trans (grown_trans (grown_trans (grown_trans (grown_trans (grown_trans (grown_trans (grown_set _ _ _ _) (grown_set _ _ _ _)) (grown_set _ _ _ _)) (grown_set _ _ _ _)) (grown_set _ _ _ _)) (grown_set _ _ _ _)) (grown_set _ _ _ _)) (grown_set _ _ _ _)) (grown_set _ _ _ _)) (grown_set _ _ _ _)⟩
/-- What instrOf returns. -/
def RetIns (W' : World) (o : Option Ins) (e : Ending) : Prop := ∃ (x : Ins) (A : Option Addr) (c : Nat), e = .returned (.tuple #[.agg (insC x A c).toArray, .bool o.isSome]) ∧ ∀ y, o = some y → y = x ∧ Own cellsInt 1 0 3 W' (.slice A x.args.length c) x.args
theorem nmIdx (a0 a1 a2 a3 a4 a5 a6 a7 a8 a9 a10 a11 a12 a13 a14 a15 a16 : ByteArray) (w : World) (i : Nat) (hi : i < 17) : (Instr.index 95 (.agg #[.string a0, .string a1, .string a2, .string a3, .string a4, .string a5, .string a6, .string a7, .string a8, .string a9, .string a10, .string a11, .string a12, .string a13, .string a14, .string a15, .string a16]) (.int .i64 (i : Int))).run Tryz.prog w = .ok (.string ([a0, a1, a2, a3, a4, a5, a6, a7, a8, a9, a10, a11, a12, a13, a14, a15, a16].getD i ⟨#[]⟩)) w :=
  match i, hi with
  | 0, _ => by kernel_rfl
  | 1, _ => by kernel_rfl
  | 2, _ => by kernel_rfl
  | 3, _ => by kernel_rfl
  | 4, _ => by kernel_rfl
  | 5, _ => by kernel_rfl
  | 6, _ => by kernel_rfl
  | 7, _ => by kernel_rfl
  | 8, _ => by kernel_rfl
  | 9, _ => by kernel_rfl
  | 10, _ => by kernel_rfl
  | 11, _ => by kernel_rfl
  | 12, _ => by kernel_rfl
  | 13, _ => by kernel_rfl
  | 14, _ => by kernel_rfl
  | 15, _ => by kernel_rfl
  | 16, _ => by kernel_rfl
  | n + 17, h => absurd h (by omega)
theorem names_inj : ∀ i, i < 17 → ∀ j, j < 17 → (nameL[i]?).getD [] = (nameL[j]?).getD [] → i = j := by decide
theorem opOf_last {w : ByteArray} {k : Nat} (hk : k < namesB.length) (hy : (w.toList == namesB[k].toList) = true) : opOf w = some k := by
  refine find_some hk (fun j hj hjk => ?_) hy
  cases h : (w.toList == namesB[j].toList) with
  | false => rfl
  | true =>
    have e := (eqS_iff.1 hy).symm.trans (eqS_iff.1 h)
    have hk17 : k < 17 := hk
    have hj17 : j < 17 := hj
    have f : ∀ i (hi : i < namesB.length), toL namesB[i] = (nameL[i]?).getD [] := fun i hi => by
      have h2 : i < nameL.length := hi
      rw [List.getElem?_eq_getElem h2]
      simp [namesB, toL_bsOf]
    have := names_inj k hk17 j hj17 (by rw [← f k hk, ← f j hj, e])
    omega
theorem trimStar : ∀ k, k < 17 → Lib.trimSuffix ((formL[k]?).getD []) [42] = letF k ∧ Lib.hasSuffix ((formL[k]?).getD []) [42] = manyF k := by decide
/-- What a list of words gives, in parts. -/
def insQ (w0 w1 : ByteArray) (rest : List ByteArray) : Option Ins := match numI w0 with
    | none => none
    | some h => match opOf w1 with
      | none => none
      | some k =>
        if rest.length < (letF k).length ∨ (manyF k = false ∧ (letF k).length < rest.length) then none else
        match setL { zIns with op := k, hnd := h } (letF k) rest with
        | none => none
        | some x => match numsL (rest.drop (letF k).length) with
          | none => none
          | some l => some { x with args := l }
theorem insP_two (ws : List ByteArray) (h : 2 ≤ ws.length) : insP ws = insQ (wd ws 0) (wd ws 1) (ws.drop 2) := by
  match ws, h with
  | a :: b :: r, _ => rfl
theorem insP_short (ws : List ByteArray) (h : ¬ 2 ≤ ws.length) : insP ws = none := by
  match ws, h with
  | [], _ => rfl
  | [a], _ => rfl
  | a :: b :: r, h => simp at h
set_option maxRecDepth 100000 in
set_option maxHeartbeats 1000000 in
theorem instrOf_short (ws : List ByteArray) (g : Nat) (W : World) (hg : Gl3 W) (hs : Sl Lay.str W (some ⟨g, 0, none⟩) ws) (h0 : 0 < ws.length) (hl : ws.length ≤ 1000000) (hz : ∀ x ∈ ws, x.size ≤ 2000000) (h2 : ¬ 2 ≤ ws.length) :
    Calls Tryz.prog 56 #[.slice (some ⟨g, 0, none⟩) ws.length ws.length] W fun e w' => RetIns w' (insP ws) e ∧ Below W.heap.size W w' := by
  obtain ⟨R, HR⟩ : ∃ R, Hid (R = insP ws) := ⟨_, Lib.hid rfl⟩
  rw [← HR.out]
  obtain ⟨d0, hgl⟩ := wd_cell hs h0
  have hz0 : (wd ws 0).size ≤ 2000000 := by rw [wd_at h0]; exact hz _ (List.getElem_mem h0)
  have HN0 := Lib.hid (fun W' h => number_any (wd ws 0) W' (hg.mono h) hz0)
  have h0i : (0 : Int) < ws.length := by omega
  have HS : Hid (R = none) := by show _ = _; rw [HR.out]; exact insP_short ws h2
  have h2i : (ws.length : Int) < 2 := by omega
  generalize wd ws 0 = w0 at *
  clear HR hz hs h2 h0
  have bz := Box.new W [.int .i64 0, .int .i64 0, .int .i64 0, .int .i64 0, .int .i64 0, .string ByteArray.empty, .string ByteArray.empty, .slice none 0 0, .int .i64 0, .int .i64 0] 47
  have hbz : Below W.heap.size W (W.alloc (.cells #[.int .i64 0, .int .i64 0, .int .i64 0, .int .i64 0, .int .i64 0, .string ByteArray.empty, .string ByteArray.empty, .slice none 0 0, .int .i64 0, .int .i64 0] 47)) := (by repeat (first | assumption | exact Below.refl _ _ | apply bw_alloc | apply bw_drew | apply bw_drewN | apply bw_later | apply bw_step))
  go_enter Tryz.func56, Tryz.ntmps56
  go_wp2_with fail
  refine (HN0.out _ hbz).mono ?_
  rintro e w1 ⟨⟨v0, rfl, _⟩, hb1⟩
  have bx := bz.mono hb1
  have hbw := below_step hbz hb1
  generalize (numI w0).isSome = ok
  clear HN0 bz hbz hb1
  have y0 := bx.cell 0 rfl
  have y1 := bx.cell 1 rfl
  have y2 := bx.cell 2 rfl
  have y3 := bx.cell 3 rfl
  have y4 := bx.cell 4 rfl
  have y5 := bx.cell 5 rfl
  have y6 := bx.cell 6 rfl
  have y7 := bx.cell 7 rfl
  have y8 := bx.cell 8 rfl
  have y9 := bx.cell 9 rfl
  have yf := fun i => bx.free i
  have yl := bx.lt
  cases ok
  · go_wp2_with fail
    obtain ⟨bx9, hg9⟩ := bx.store10 (.int .i64 0) (.int .i64 0) (.int .i64 0) (.int .i64 0) (.int .i64 0) (.string ⟨#[]⟩) (.string ⟨#[]⟩) (.slice none 0 0) (.int .i64 0) (.int .i64 0)
    have hb9 := (hbw).grown hg9 (hbw).size (fun k hk => by injection hk with hk; omega)
    clear y0 y1 y2 y3 y4 y5 y6 y7 y8 y9 yf yl
    generalize World.setCell _ _ _ = wz at *
    have y0 := bx9.cell 0 rfl
    have y1 := bx9.cell 1 rfl
    have y2 := bx9.cell 2 rfl
    have y3 := bx9.cell 3 rfl
    have y4 := bx9.cell 4 rfl
    have y5 := bx9.cell 5 rfl
    have y6 := bx9.cell 6 rfl
    have y7 := bx9.cell 7 rfl
    have y8 := bx9.cell 8 rfl
    have y9 := bx9.cell 9 rfl
    refine bodyPost_ret (v := .tuple #[.agg #[.int .i64 0, .int .i64 0, .int .i64 0, .int .i64 0, .int .i64 0, .string ⟨#[]⟩, .string ⟨#[]⟩, .slice none 0 0, .int .i64 0, .int .i64 0], .bool false]) (by simp [results, Tryz.results56, go_sem, y0, y1, y2, y3, y4, y5, y6, y7, y8, y9]) rfl ⟨⟨zIns, none, 0, by rw [HS.out]; rfl, fun y hy => (by rw [HS.out] at hy; cases hy)⟩, hb9⟩
  · go_wp2_with fail
    obtain ⟨bx9, hg9⟩ := bx.store10 (.int .i64 0) (.int .i64 0) (.int .i64 0) (.int .i64 0) (.int .i64 0) (.string ⟨#[]⟩) (.string ⟨#[]⟩) (.slice none 0 0) (.int .i64 0) (.int .i64 0)
    have hb9 := (hbw).grown hg9 (hbw).size (fun k hk => by injection hk with hk; omega)
    clear y0 y1 y2 y3 y4 y5 y6 y7 y8 y9 yf yl
    generalize World.setCell _ _ _ = wz at *
    have y0 := bx9.cell 0 rfl
    have y1 := bx9.cell 1 rfl
    have y2 := bx9.cell 2 rfl
    have y3 := bx9.cell 3 rfl
    have y4 := bx9.cell 4 rfl
    have y5 := bx9.cell 5 rfl
    have y6 := bx9.cell 6 rfl
    have y7 := bx9.cell 7 rfl
    have y8 := bx9.cell 8 rfl
    have y9 := bx9.cell 9 rfl
    refine bodyPost_ret (v := .tuple #[.agg #[.int .i64 0, .int .i64 0, .int .i64 0, .int .i64 0, .int .i64 0, .string ⟨#[]⟩, .string ⟨#[]⟩, .slice none 0 0, .int .i64 0, .int .i64 0], .bool false]) (by simp [results, Tryz.results56, go_sem, y0, y1, y2, y3, y4, y5, y6, y7, y8, y9]) rfl ⟨⟨zIns, none, 0, by rw [HS.out]; rfl, fun y hy => (by rw [HS.out] at hy; cases hy)⟩, hb9⟩
set_option maxRecDepth 100000 in
set_option maxHeartbeats 1000000 in
theorem instrOf_nonum (ws : List ByteArray) (g : Nat) (W : World) (hg : Gl3 W) (hs : Sl Lay.str W (some ⟨g, 0, none⟩) ws) (h0 : 0 < ws.length) (hl : ws.length ≤ 1000000) (hz : ∀ x ∈ ws, x.size ≤ 2000000) (h2 : 2 ≤ ws.length) (hn0 : numI (wd ws 0) = none) :
    Calls Tryz.prog 56 #[.slice (some ⟨g, 0, none⟩) ws.length ws.length] W fun e w' => RetIns w' (insP ws) e ∧ Below W.heap.size W w' := by
  obtain ⟨R, HR⟩ : ∃ R, Hid (R = insP ws) := ⟨_, Lib.hid rfl⟩
  rw [← HR.out]
  obtain ⟨d0, hgl⟩ := wd_cell hs h0
  have hz0 : (wd ws 0).size ≤ 2000000 := by rw [wd_at h0]; exact hz _ (List.getElem_mem h0)
  have HN0 := Lib.hid (fun W' h => number_any (wd ws 0) W' (hg.mono h) hz0)
  have h0i : (0 : Int) < ws.length := by omega
  obtain ⟨d1, _⟩ := wd_cell hs (show 1 < ws.length by omega)
  have HRQ : Hid (R = insQ (wd ws 0) (wd ws 1) (ws.drop 2)) := by show _ = _; rw [HR.out, insP_two ws h2]
  have hpl : (ws.drop 2).length = ws.length - 2 := List.length_drop
  have hdr := hs.dropI2 2
  rw [Nat.zero_add] at hdr
  have HZR : Hid (∀ x ∈ ws.drop 2, x.size ≤ 2000000) := fun x hx => hz x (List.mem_of_mem_drop hx)
  have h1i : (1 : Int) < ws.length := by omega
  have h2i : ¬ (ws.length : Int) < 2 := by omega
  have h2j : (2 : Int) ≤ ws.length := by omega
  have HNM := Lib.hid hg.nx
  have HFX := Lib.hid hg.fx
  generalize wd ws 0 = w0 at *
  generalize wd ws 1 = w1s at *
  have bz := Box.new W [.int .i64 0, .int .i64 0, .int .i64 0, .int .i64 0, .int .i64 0, .string ByteArray.empty, .string ByteArray.empty, .slice none 0 0, .int .i64 0, .int .i64 0] 47
  have hbz : Below W.heap.size W (W.alloc (.cells #[.int .i64 0, .int .i64 0, .int .i64 0, .int .i64 0, .int .i64 0, .string ByteArray.empty, .string ByteArray.empty, .slice none 0 0, .int .i64 0, .int .i64 0] 47)) := (by repeat (first | assumption | exact Below.refl _ _ | apply bw_alloc | apply bw_drew | apply bw_drewN | apply bw_later | apply bw_step))
  clear HR hz h0
  go_enter Tryz.func56, Tryz.ntmps56
  go_wp2_with fail
  refine (HN0.out _ hbz).mono ?_
  rintro e w1 ⟨⟨v0, rfl, hv0⟩, hb1⟩
  have bx := bz.mono hb1
  have hbw := below_step hbz hb1
  clear HN0 bz hbz hb1
  have hn := hn0
  have HS : Hid (R = none) := by show _ = _; rw [HRQ.out]; unfold insQ; rw [hn]
  clear HRQ hn hv0 hs hdr hpl h2
  have y0 := bx.cell 0 rfl
  have y1 := bx.cell 1 rfl
  have y2 := bx.cell 2 rfl
  have y3 := bx.cell 3 rfl
  have y4 := bx.cell 4 rfl
  have y5 := bx.cell 5 rfl
  have y6 := bx.cell 6 rfl
  have y7 := bx.cell 7 rfl
  have y8 := bx.cell 8 rfl
  have y9 := bx.cell 9 rfl
  have yf := fun i => bx.free i
  have yl := bx.lt
  go_wp2_with fail
  obtain ⟨bx9, hg9⟩ := bx.store10 (.int .i64 0) (.int .i64 0) (.int .i64 0) (.int .i64 0) (.int .i64 0) (.string ⟨#[]⟩) (.string ⟨#[]⟩) (.slice none 0 0) (.int .i64 0) (.int .i64 0)
  have hb9 := (hbw).grown hg9 (hbw).size (fun k hk => by injection hk with hk; omega)
  clear y0 y1 y2 y3 y4 y5 y6 y7 y8 y9 yf yl
  generalize World.setCell _ _ _ = wz at *
  have y0 := bx9.cell 0 rfl
  have y1 := bx9.cell 1 rfl
  have y2 := bx9.cell 2 rfl
  have y3 := bx9.cell 3 rfl
  have y4 := bx9.cell 4 rfl
  have y5 := bx9.cell 5 rfl
  have y6 := bx9.cell 6 rfl
  have y7 := bx9.cell 7 rfl
  have y8 := bx9.cell 8 rfl
  have y9 := bx9.cell 9 rfl
  refine bodyPost_ret (v := .tuple #[.agg #[.int .i64 0, .int .i64 0, .int .i64 0, .int .i64 0, .int .i64 0, .string ⟨#[]⟩, .string ⟨#[]⟩, .slice none 0 0, .int .i64 0, .int .i64 0], .bool false]) (by simp [results, Tryz.results56, go_sem, y0, y1, y2, y3, y4, y5, y6, y7, y8, y9]) rfl ⟨⟨zIns, none, 0, by rw [HS.out]; rfl, fun y hy => (by rw [HS.out] at hy; cases hy)⟩, hb9⟩
end Go.Proofs.YticpeombillmeaaGreatDoor
