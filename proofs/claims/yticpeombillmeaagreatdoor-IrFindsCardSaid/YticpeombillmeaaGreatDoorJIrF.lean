/-
  Chapter 13: the reader's line. (Printed by wip/gen/irF.py.)
-/
import Derived.Test.YticpeombillmeaaGreatDoorJIrE
namespace Go.Proofs.YticpeombillmeaaGreatDoor
open Go.RowKit Go.Deep
set_option linter.unusedVariables false

theorem instrOf_any (ws : List ByteArray) (g : Nat) (W : World) (hg : Gl3 W) (hs : Sl Lay.str W (some ⟨g, 0, none⟩) ws) (h0 : 0 < ws.length) (hl : ws.length ≤ 1000000) (hz : ∀ x ∈ ws, x.size ≤ 2000000) :
    Calls Tryz.prog 56 #[.slice (some ⟨g, 0, none⟩) ws.length ws.length] W fun e w' => RetIns w' (insP ws) e ∧ Below W.heap.size W w' := by
  by_cases h2 : 2 ≤ ws.length
  · cases hn : numI (wd ws 0) with
    | none => exact instrOf_nonum ws g W hg hs h0 hl hz h2 hn
    | some h => exact instrOf_num ws g W hg hs hl hz h2 h hn
  · exact instrOf_short ws g W hg hs h0 hl hz h2
set_option maxRecDepth 100000 in
theorem pass_set {w0 W : World} {rb m : Nat} {r : RdI} {rc0 : List RC} {rf0 : List RFn} {oc : Option RC} {of : Option RFn} {vC vF : Value} (a b p : Nat) (hR : RdAt w0 rb r m rc0 rf0 oc of vC vF W) (h1 : a ≤ r.pl) (h2 : r.pl ≤ b) :
    Calls Tryz.prog 52 #[.pointer (some ⟨rb, 0, none⟩), .int .i64 a, .int .i64 b, .int .i64 p] W fun e w' => e = .returned (.bool true) ∧ W.setCell ⟨rb, 3, none⟩ (.int .i64 p) = w' := by
  have q3 := hR.bx.cell 3 rfl
  have ql := hR.bx.lt
  have qf := fun i => hR.bx.free i
  have h1i : ¬ (r.pl : Int) < a := by omega
  have h2i : ¬ (b : Int) < r.pl := by omega
  clear h1 h2
  go_enter Tryz.func52, Tryz.ntmps52
  go_wp2_with fail
  go_ret
  exact ⟨rfl, rfl⟩
theorem box_ne {w : World} {a b : Nat} {x y : List Value} {t u : TypeId} (h : Box w a x t) (k : Box w b y u) (hne : t ≠ u) : b ≠ a := fun e => by
  subst e
  have := h.symm.trans k
  injection this with this
  injection this with _ this
  exact hne this
/-- Bounds on what was read. -/
structure LenB (r : RdI) : Prop where
  c : r.cs.length ≤ 1000000
  cf : ∀ c ∈ r.cs, c.fields.length ≤ 1000000 ∧ c.methods.length ≤ 1000000
  f : r.fs.length ≤ 1000000
  fv : ∀ f ∈ r.fs, f.vars.length ≤ 1000000 ∧ f.code.length ≤ 1000000
/-- What the line gives. -/
def LineR (w0 : World) (rb : Nat) (o : Option RdI) (e : Ending) (w' : World) : Prop := e = .returned (.bool o.isSome) ∧ Below w0.heap.size w0 w' ∧ ∀ r', o = some r' → RdSome w0 rb r' w'
theorem LineR.no {w0 w' : World} {rb : Nat} {o : Option RdI} (h : o = none) (hb : Below w0.heap.size w0 w') : LineR w0 rb o (.returned (.bool false)) w' := by
  subst h
  exact ⟨rfl, hb, fun r' h => by cases h⟩
theorem LineR.yes {w0 w' : World} {rb : Nat} {o : Option RdI} {r : RdI} (h : o = some r) (hr : RdSome w0 rb r w') : LineR w0 rb o (.returned (.bool true)) w' := by
  subst h
  exact ⟨rfl, hr.bel, fun r' h => by injection h with h; rw [← h]; exact hr⟩
section
variable {w0 W : World} {rb m : Nat} {r : RdI} {rc0 : List RC} {rf0 : List RFn} {oc : Option RC} {of : Option RFn} {vC vF : Value}
theorem RdAt.rcLen (h : RdAt w0 rb r m rc0 rf0 oc of vC vF W) (hb : LenB r) : (rc0 ++ oc.toList).length ≤ 1000000 := by
  have := hb.c
  rw [← h.eC, List.length_map] at this
  exact this
theorem RdAt.rfLen (h : RdAt w0 rb r m rc0 rf0 oc of vC vF W) (hb : LenB r) : (rf0 ++ of.toList).length ≤ 1000000 := by
  have := hb.f
  rw [← h.eF, List.length_map] at this
  exact this
theorem RdAt.rcMem {x : RC} (h : RdAt w0 rb r m rc0 rf0 (some x) of vC vF W) (hb : LenB r) : x.1.fields.length ≤ 1000000 ∧ x.1.methods.length ≤ 1000000 := by
  refine hb.cf x.1 ?_
  rw [← h.eC]
  simp
theorem RdAt.rfMem {x : RFn} (h : RdAt w0 rb r m rc0 rf0 oc (some x) vC vF W) (hb : LenB r) : x.1.vars.length ≤ 1000000 ∧ x.1.code.length ≤ 1000000 := by
  refine hb.fv x.1 ?_
  rw [← h.eF]
  simp
end
set_option maxRecDepth 100000 in
set_option maxHeartbeats 2000000 in
theorem rdLine_cls {w0 W : World} {rb : Nat} {r : RdI} (ws : List ByteArray) (g : Nat) (hR : RdSome w0 rb r W) (hbs : Box W g (ws.map Value.string) 9) (h0 : 0 < ws.length) (hl : ws.length ≤ 1000000) (hz : ∀ x ∈ ws, x.size ≤ 2000000) (hg : Gl3 W) (hB : LenB r) (hk : ((wd ws 0).toList == wClass) = true) :
    Calls Tryz.prog 27 #[.pointer (some ⟨rb, 0, none⟩), .slice (some ⟨g, 0, none⟩) ws.length ws.length] W fun e w' => LineR w0 rb (lineP r ws) e w' := by
  obtain ⟨o, HO⟩ : ∃ o, Hid (o = lineP r ws) := ⟨_, Lib.hid rfl⟩
  rw [← HO.out]
  obtain ⟨d0, hgl⟩ := wd_cell hbs.strs h0
  have h0i : (0 : Int) < ws.length := by omega
  obtain ⟨m, rc0, rf0, oc, of, vC, vF, hA, hp0, hp1, hp2⟩ := hR
  have t0 : ((wd ws 0).toList == ([99, 108, 97, 115, 115] : List UInt8)) = true := hk
  have HQ : Hid (o = if 2 ≤ ws.length ∧ ws.length ≤ 3 ∧ r.pl ≤ 3 then some ⟨r.cs ++ [clsP ws], r.fs, 1⟩ else none) := by
    show _ = _
    rw [HO.out]
    unfold lineP
    rw [if_pos (show ((wd ws 0).toList == wClass) = true from hk)]
  generalize wd ws 0 = x0 at *
  by_cases h2 : 2 ≤ ws.length
  case neg =>
    have HN : Hid (o = none) := by show _ = _; rw [HQ.out, if_neg (fun h => h2 h.1)]
    have f1 : ¬ (2 : Int) ≤ ws.length := by omega
    have hbw := hA.bw
    clear HO HQ
    go_enter Tryz.func27, Tryz.ntmps27
    go_wp2_with fail
    go_ret
    exact LineR.no HN.out hbw
  by_cases h3 : ws.length ≤ 3
  case neg =>
    have HN : Hid (o = none) := by show _ = _; rw [HQ.out, if_neg (fun h => h3 h.2.1)]
    have f1 : (2 : Int) ≤ ws.length := by omega
    have f2 : ¬ (ws.length : Int) ≤ 3 := by omega
    have hbw := hA.bw
    clear HO HQ
    go_enter Tryz.func27, Tryz.ntmps27
    go_wp2_with fail
    go_ret
    exact LineR.no HN.out hbw
  have f1 : (2 : Int) ≤ ws.length := by omega
  have f2 : (ws.length : Int) ≤ 3 := by omega
  by_cases h4 : r.pl ≤ 3
  case neg =>
    have HN : Hid (o = none) := by show _ = _; rw [HQ.out, if_neg (fun h => h4 h.2.2)]
    have HP := Lib.hid (pass_no 0 3 1 hA (Or.inr (by omega)))
    have hbw := hA.bw
    clear HO HQ
    go_enter Tryz.func27, Tryz.ntmps27
    go_wp2_with fail
    refine HP.out.mono ?_
    rintro e w1 ⟨rfl, rfl⟩
    go_wp2_with fail
    go_ret
    exact LineR.no HN.out hbw
  have HY : Hid (o = some ⟨r.cs ++ [clsP ws], r.fs, 1⟩) := by show _ = _; rw [HQ.out, if_pos ⟨h2, h3, h4⟩]
  have HP := Lib.hid (pass_set 0 3 1 hA (by omega) h4)
  have HK := Lib.hid (rdClass (c := ws.length) ws (hA.place 1).freeze (hbs.setOther (p := ⟨rb, 3, none⟩) (box_ne hbs hA.bx (by decide)) (.int .i64 (1 : Nat))).strs h2 h3 (hA.rcLen hB))
  clear HO HQ
  go_enter Tryz.func27, Tryz.ntmps27
  go_wp2_with fail
  refine HP.out.mono ?_
  rintro e w1 ⟨rfl, rfl⟩
  go_wp2_with fail
  refine HK.out.mono ?_
  rintro e w2 ⟨rfl, hR2⟩
  go_wp2_with fail
  go_ret
  exact LineR.yes HY.out hR2
set_option maxRecDepth 100000 in
set_option maxHeartbeats 2000000 in
theorem rdLine_fld {w0 W : World} {rb : Nat} {r : RdI} (ws : List ByteArray) (g : Nat) (hR : RdSome w0 rb r W) (hbs : Box W g (ws.map Value.string) 9) (h0 : 0 < ws.length) (hl : ws.length ≤ 1000000) (hz : ∀ x ∈ ws, x.size ≤ 2000000) (hg : Gl3 W) (hB : LenB r) (hk : ((wd ws 0).toList == wField) = true) :
    Calls Tryz.prog 27 #[.pointer (some ⟨rb, 0, none⟩), .slice (some ⟨g, 0, none⟩) ws.length ws.length] W fun e w' => LineR w0 rb (lineP r ws) e w' := by
  obtain ⟨o, HO⟩ : ∃ o, Hid (o = lineP r ws) := ⟨_, Lib.hid rfl⟩
  rw [← HO.out]
  obtain ⟨d0, hgl⟩ := wd_cell hbs.strs h0
  have h0i : (0 : Int) < ws.length := by omega
  obtain ⟨m, rc0, rf0, oc, of, vC, vF, hA, hp0, hp1, hp2⟩ := hR
  have t0 : ((wd ws 0).toList == ([99, 108, 97, 115, 115] : List UInt8)) = false := by rw [eqW.1 hk, tL]; decide
  have t1 : ((wd ws 0).toList == ([102, 105, 101, 108, 100] : List UInt8)) = true := hk
  have HQ : Hid (o = if ws.length = 3 ∧ 1 ≤ r.pl ∧ r.pl ≤ 2 then some ⟨modLast (fun c => { c with fields := c.fields ++ [fldP ws] }) r.cs, r.fs, 2⟩ else none) := by
    show _ = _
    rw [HO.out]
    unfold lineP
    rw [if_neg (by rw [show ((wd ws 0).toList == wClass) = false from t0]; simp), if_pos (show ((wd ws 0).toList == wField) = true from hk)]
  generalize wd ws 0 = x0 at *
  by_cases h3 : ws.length = 3
  case neg =>
    have HN : Hid (o = none) := by show _ = _; rw [HQ.out, if_neg (fun h => h3 h.1)]
    have f1 : ((ws.length : Int) == 3) = false := beq_eq_false_iff_ne.2 (by omega)
    have hbw := hA.bw
    clear HO HQ
    go_enter Tryz.func27, Tryz.ntmps27
    go_wp2_with fail
    go_ret
    exact LineR.no HN.out hbw
  have f1 : ((ws.length : Int) == 3) = true := by rw [beq_iff_eq]; omega
  by_cases h4 : 1 ≤ r.pl ∧ r.pl ≤ 2
  case neg =>
    have HN : Hid (o = none) := by show _ = _; rw [HQ.out, if_neg (fun h => h4 h.2)]
    have HP := Lib.hid (pass_no 1 2 2 hA (by omega))
    have hbw := hA.bw
    clear HO HQ h3
    go_enter Tryz.func27, Tryz.ntmps27
    go_wp2_with fail
    refine HP.out.mono ?_
    rintro e w1 ⟨rfl, rfl⟩
    go_wp2_with fail
    go_ret
    exact LineR.no HN.out hbw
  have HY : Hid (o = some ⟨modLast (fun c => { c with fields := c.fields ++ [fldP ws] }) r.cs, r.fs, 2⟩) := by show _ = _; rw [HQ.out, if_pos ⟨h3, h4⟩]
  obtain ⟨hsome, rfl⟩ := hp1 h4.1 (by omega)
  obtain ⟨x, rfl⟩ := Option.isSome_iff_exists.1 hsome
  have hrc := hA.rcLen hB
  rw [Option.toList_some, List.length_append] at hrc
  have HP := Lib.hid (pass_set 1 2 2 hA h4.1 h4.2)
  have HK := Lib.hid (rdField (c := ws.length) ws (hA.place 2) (hbs.setOther (p := ⟨rb, 3, none⟩) (box_ne hbs hA.bx (by decide)) (.int .i64 (2 : Nat))).strs h3 (by omega) (hA.rcMem hB).1)
  clear HO HQ h3
  go_enter Tryz.func27, Tryz.ntmps27
  go_wp2_with fail
  refine HP.out.mono ?_
  rintro e w1 ⟨rfl, rfl⟩
  go_wp2_with fail
  refine HK.out.mono ?_
  rintro e w2 ⟨rfl, hR2⟩
  go_wp2_with fail
  go_ret
  exact LineR.yes HY.out hR2
set_option maxRecDepth 100000 in
set_option maxHeartbeats 2000000 in
theorem rdLine_mth {w0 W : World} {rb : Nat} {r : RdI} (ws : List ByteArray) (g : Nat) (hR : RdSome w0 rb r W) (hbs : Box W g (ws.map Value.string) 9) (h0 : 0 < ws.length) (hl : ws.length ≤ 1000000) (hz : ∀ x ∈ ws, x.size ≤ 2000000) (hg : Gl3 W) (hB : LenB r) (hk : ((wd ws 0).toList == wMethod) = true) :
    Calls Tryz.prog 27 #[.pointer (some ⟨rb, 0, none⟩), .slice (some ⟨g, 0, none⟩) ws.length ws.length] W fun e w' => LineR w0 rb (lineP r ws) e w' := by
  obtain ⟨o, HO⟩ : ∃ o, Hid (o = lineP r ws) := ⟨_, Lib.hid rfl⟩
  rw [← HO.out]
  obtain ⟨d0, hgl⟩ := wd_cell hbs.strs h0
  have h0i : (0 : Int) < ws.length := by omega
  obtain ⟨m, rc0, rf0, oc, of, vC, vF, hA, hp0, hp1, hp2⟩ := hR
  have t0 : ((wd ws 0).toList == ([99, 108, 97, 115, 115] : List UInt8)) = false := by rw [eqW.1 hk, tL]; decide
  have t1 : ((wd ws 0).toList == ([102, 105, 101, 108, 100] : List UInt8)) = false := by rw [eqW.1 hk, tL]; decide
  have t2 : ((wd ws 0).toList == ([109, 101, 116, 104, 111, 100] : List UInt8)) = true := hk
  have HQ : Hid (o = if 4 ≤ ws.length ∧ 1 ≤ r.pl ∧ r.pl ≤ 3 ∧ ((wd ws 2).toList == wStat || (wd ws 2).toList == wVirt) = true then some ⟨modLast (fun c => { c with methods := c.methods ++ [mthP ws] }) r.cs, r.fs, 3⟩ else none) := by
    show _ = _
    rw [HO.out]
    unfold lineP
    rw [if_neg (by rw [show ((wd ws 0).toList == wClass) = false from t0]; simp), if_neg (by rw [show ((wd ws 0).toList == wField) = false from t1]; simp), if_pos (show ((wd ws 0).toList == wMethod) = true from hk)]
  generalize wd ws 0 = x0 at *
  by_cases h3 : 4 ≤ ws.length
  case neg =>
    have HN : Hid (o = none) := by show _ = _; rw [HQ.out, if_neg (fun h => h3 h.1)]
    have f1 : ¬ (4 : Int) ≤ ws.length := by omega
    have hbw := hA.bw
    clear HO HQ h3
    go_enter Tryz.func27, Tryz.ntmps27
    go_wp2_with fail
    go_ret
    exact LineR.no HN.out hbw
  have f1 : (4 : Int) ≤ ws.length := by omega
  by_cases h4 : 1 ≤ r.pl ∧ r.pl ≤ 3
  case neg =>
    have HN : Hid (o = none) := by show _ = _; rw [HQ.out, if_neg (fun h => h4 ⟨h.2.1, h.2.2.1⟩)]
    have HP := Lib.hid (pass_no 1 3 3 hA (by omega))
    have hbw := hA.bw
    clear HO HQ h3
    go_enter Tryz.func27, Tryz.ntmps27
    go_wp2_with fail
    refine HP.out.mono ?_
    rintro e w1 ⟨rfl, rfl⟩
    go_wp2_with fail
    go_ret
    exact LineR.no HN.out hbw
  obtain ⟨ok, HOK⟩ : ∃ ok, Hid (ok = ((wd ws 2).toList == wStatL || (wd ws 2).toList == wVirtL)) := ⟨_, Lib.hid rfl⟩
  have HY : Hid (o = if ok = true then some ⟨modLast (fun c => { c with methods := c.methods ++ [mthP ws] }) r.cs, r.fs, 3⟩ else none) := by
    show _ = _
    rw [HQ.out, HOK.out]
    show _ = (if ((wd ws 2).toList == wStat || (wd ws 2).toList == wVirt) = true then _ else _)
    by_cases h : ((wd ws 2).toList == wStat || (wd ws 2).toList == wVirt) = true
    · rw [if_pos ⟨h3, h4.1, h4.2, h⟩, if_pos h]
    · rw [if_neg (fun k => h k.2.2.2), if_neg h]
  obtain ⟨hsome, rfl⟩ := hp1 h4.1 h4.2
  obtain ⟨x, rfl⟩ := Option.isSome_iff_exists.1 hsome
  have hrc := hA.rcLen hB
  rw [Option.toList_some, List.length_append] at hrc
  have HP := Lib.hid (pass_set 1 3 3 hA h4.1 h4.2)
  have HK := Lib.hid (rdMeth ws (hA.place 3) (hbs.setOther (p := ⟨rb, 3, none⟩) (box_ne hbs hA.bx (by decide)) (.int .i64 (3 : Nat))).strs h3 hl (by omega) (hA.rcMem hB).2 ok HOK.out)
  clear HO HQ h3
  go_enter Tryz.func27, Tryz.ntmps27
  go_wp2_with fail
  refine HP.out.mono ?_
  rintro e w1 ⟨rfl, rfl⟩
  go_wp2_with fail
  refine HK.out.mono ?_
  rintro e w2 ⟨rfl, hR2, hR3⟩
  cases ok with
  | true =>
    go_wp2_with fail
    go_ret
    exact LineR.yes HY.out (hR3 (by first | rfl | trivial))
  | false =>
    go_wp2_with fail
    go_ret
    exact LineR.no HY.out hR2
set_option maxRecDepth 100000 in
set_option maxHeartbeats 2000000 in
theorem rdLine_fun {w0 W : World} {rb : Nat} {r : RdI} (ws : List ByteArray) (g : Nat) (hR : RdSome w0 rb r W) (hbs : Box W g (ws.map Value.string) 9) (h0 : 0 < ws.length) (hl : ws.length ≤ 1000000) (hz : ∀ x ∈ ws, x.size ≤ 2000000) (hg : Gl3 W) (hB : LenB r) (hk : ((wd ws 0).toList == wFunc) = true) :
    Calls Tryz.prog 27 #[.pointer (some ⟨rb, 0, none⟩), .slice (some ⟨g, 0, none⟩) ws.length ws.length] W fun e w' => LineR w0 rb (lineP r ws) e w' := by
  obtain ⟨o, HO⟩ : ∃ o, Hid (o = lineP r ws) := ⟨_, Lib.hid rfl⟩
  rw [← HO.out]
  obtain ⟨d0, hgl⟩ := wd_cell hbs.strs h0
  have h0i : (0 : Int) < ws.length := by omega
  obtain ⟨m, rc0, rf0, oc, of, vC, vF, hA, hp0, hp1, hp2⟩ := hR
  have t0 : ((wd ws 0).toList == ([99, 108, 97, 115, 115] : List UInt8)) = false := by rw [eqW.1 hk, tL]; decide
  have t1 : ((wd ws 0).toList == ([102, 105, 101, 108, 100] : List UInt8)) = false := by rw [eqW.1 hk, tL]; decide
  have t2 : ((wd ws 0).toList == ([109, 101, 116, 104, 111, 100] : List UInt8)) = false := by rw [eqW.1 hk, tL]; decide
  have t3 : ((wd ws 0).toList == ([102, 117, 110, 99] : List UInt8)) = true := hk
  have HQ : Hid (o = if ws.length = 3 ∧ r.pl ≤ 6 then some ⟨r.cs, r.fs ++ [funP ws], 4⟩ else none) := by
    show _ = _
    rw [HO.out]
    unfold lineP
    rw [if_neg (by rw [show ((wd ws 0).toList == wClass) = false from t0]; simp), if_neg (by rw [show ((wd ws 0).toList == wField) = false from t1]; simp), if_neg (by rw [show ((wd ws 0).toList == wMethod) = false from t2]; simp), if_pos (show ((wd ws 0).toList == wFunc) = true from hk)]
  have HFP : Hid (funP ws = ⟨wd ws 1, wd ws 2, false, 0, [], ⟨#[]⟩, []⟩) := rfl
  generalize wd ws 0 = x0 at *
  by_cases h3 : ws.length = 3
  case neg =>
    have HN : Hid (o = none) := by show _ = _; rw [HQ.out, if_neg (fun h => h3 h.1)]
    have f1 : ((ws.length : Int) == 3) = false := beq_eq_false_iff_ne.2 (by omega)
    have f2 : ((ws.length : Int) != 3) = true := by rw [bne, f1]; rfl
    have hbw := hA.bw
    clear HO HQ
    go_enter Tryz.func27, Tryz.ntmps27
    go_wp2_with fail
    go_ret
    exact LineR.no HN.out hbw
  have f1 : ((ws.length : Int) == 3) = true := by rw [beq_iff_eq]; omega
  have f2 : ((ws.length : Int) != 3) = false := by rw [bne, f1]; rfl
  have f1i : (1 : Int) < ws.length := by omega
  have f2i : (2 : Int) < ws.length := by omega
  by_cases h4 : r.pl ≤ 6
  case neg =>
    have HN : Hid (o = none) := by show _ = _; rw [HQ.out, if_neg (fun h => h4 h.2)]
    have HP := Lib.hid (pass_no 0 6 4 hA (by omega))
    have hbw := hA.bw
    clear HO HQ h3
    go_enter Tryz.func27, Tryz.ntmps27
    go_wp2_with fail
    refine HP.out.mono ?_
    rintro e w1 ⟨rfl, rfl⟩
    go_wp2_with fail
    go_ret
    exact LineR.no HN.out hbw
  have HY : Hid (o = some ⟨r.cs, r.fs ++ [funP ws], 4⟩) := by show _ = _; rw [HQ.out, if_pos ⟨h3, h4⟩]
  rw [HFP.out] at HY
  have HP := Lib.hid (pass_set 0 6 4 hA (by omega) h4)
  have hA1 := (hA.place 4).freeze
  have hfl := hA.rfLen hB
  have hne := box_ne hbs hA.bx (by decide)
  have hb1 := hbs.setOther (p := ⟨rb, 3, none⟩) hne (.int .i64 (4 : Nat))
  obtain ⟨d1, hgl1⟩ := wd_cell hb1.strs (show 1 < ws.length by omega)
  obtain ⟨d2, _⟩ := wd_cell hb1.strs (show 2 < ws.length by omega)
  generalize wd ws 1 = x1 at *
  generalize wd ws 2 = x2 at *
  clear HO HQ h3 HFP hb1
  go_enter Tryz.func27, Tryz.ntmps27
  go_wp2_with fail
  refine HP.out.mono ?_
  rintro e w1 ⟨rfl, rfl⟩
  generalize W.setCell _ _ = W1 at *
  obtain ⟨A, cF, hv⟩ := hA1.oF.sliceOf
  replace hv : vF = .slice A (rf0 ++ of.toList).length cF := by rw [hv]; simp
  subst hv
  have r1 := hA1.bx.cell 1 rfl
  have rl := hA1.bx.lt
  generalize rc0 ++ oc.toList = rcs at *
  generalize rf0 ++ of.toList = rfs at *
  clear hA hbs hgl d0 HP hp0 hp1 hp2 hne
  go_upto_region 11 with fail
  have hza := (hA1.mono (bw_drew (Below.refl _ _))).mono (show Below W1.drew.heap.size W1.drew (W1.drew.alloc (.cells #[.string x1, .string x2, .bool false, .int .i64 0, .slice none 0 0, .string ⟨#[]⟩, .slice none 0 0] 43)) from bw_alloc (Below.refl _ _))
  have bn := Box.new W1.drew [.string x1, .string x2, .bool false, .int .i64 0, .slice none 0 0, .string ⟨#[]⟩, .slice none 0 0] 43
  have oF := hza.oF
  rw [Option.toList_none, List.append_nil] at oF
  obtain ⟨v7, w7, hrun, hown7, hb7, hg7, hz7⟩ := run_push funsTyI cellsRF_ok 25 oF (⟨x1, x2, false, 0, [], ⟨#[]⟩, []⟩, (none, 0), none, 0) W1.heap.size 1 (fun j u hu => bn.cell j hu) (by unfold maxLen; omega) (by omega) (by have := hza.bw.size; simpa using this)
  obtain ⟨hbx, hR2⟩ := hza.addF ⟨x1, x2, false, 0, [], ⟨#[]⟩, []⟩ rfl rfl hown7 hg7
  obtain ⟨A7, c7, e7⟩ := hown7.sliceOf
  replace e7 : v7 = .slice A7 (rfs.length + 1) c7 := by rw [e7, List.length_append]; rfl
  subst e7
  have q1 := hbx.cell 1 rfl
  have qf := fun i => hbx.free i
  have ql := hbx.lt
  go_region_law (refine step_appendI rfl (.tmp 74) (.tmp 82) 25 rfl (by simp [Act.eval]) (by simp [Act.eval]) hrun ?_)
  all_goals (go_wp2_with fail; go_ret; exact LineR.yes HY.out (RdSome.ofF hR2 (by simp)))
set_option maxRecDepth 100000 in
set_option maxHeartbeats 2000000 in
theorem rdLine_var {w0 W : World} {rb : Nat} {r : RdI} (ws : List ByteArray) (g : Nat) (hR : RdSome w0 rb r W) (hbs : Box W g (ws.map Value.string) 9) (h0 : 0 < ws.length) (hl : ws.length ≤ 1000000) (hz : ∀ x ∈ ws, x.size ≤ 2000000) (hg : Gl3 W) (hB : LenB r) (hk : ((wd ws 0).toList == wVar) = true) :
    Calls Tryz.prog 27 #[.pointer (some ⟨rb, 0, none⟩), .slice (some ⟨g, 0, none⟩) ws.length ws.length] W fun e w' => LineR w0 rb (lineP r ws) e w' := by
  obtain ⟨o, HO⟩ : ∃ o, Hid (o = lineP r ws) := ⟨_, Lib.hid rfl⟩
  rw [← HO.out]
  obtain ⟨d0, hgl⟩ := wd_cell hbs.strs h0
  have h0i : (0 : Int) < ws.length := by omega
  obtain ⟨m, rc0, rf0, oc, of, vC, vF, hA, hp0, hp1, hp2⟩ := hR
  have t0 : ((wd ws 0).toList == ([99, 108, 97, 115, 115] : List UInt8)) = false := by rw [eqW.1 hk, tL]; decide
  have t1 : ((wd ws 0).toList == ([102, 105, 101, 108, 100] : List UInt8)) = false := by rw [eqW.1 hk, tL]; decide
  have t2 : ((wd ws 0).toList == ([109, 101, 116, 104, 111, 100] : List UInt8)) = false := by rw [eqW.1 hk, tL]; decide
  have t3 : ((wd ws 0).toList == ([102, 117, 110, 99] : List UInt8)) = false := by rw [eqW.1 hk, tL]; decide
  have t4 : ((wd ws 0).toList == ([118, 97, 114] : List UInt8)) = true := hk
  have HQ : Hid (o = if ws.length = 3 ∧ 4 ≤ r.pl ∧ r.pl ≤ 5 then some ⟨r.cs, modLast (fun f => { f with vars := f.vars ++ [fldP ws] }) r.fs, 5⟩ else none) := by
    show _ = _
    rw [HO.out]
    unfold lineP
    rw [if_neg (by rw [show ((wd ws 0).toList == wClass) = false from t0]; simp), if_neg (by rw [show ((wd ws 0).toList == wField) = false from t1]; simp), if_neg (by rw [show ((wd ws 0).toList == wMethod) = false from t2]; simp), if_neg (by rw [show ((wd ws 0).toList == wFunc) = false from t3]; simp), if_pos (show ((wd ws 0).toList == wVar) = true from hk)]
  have HFP : Hid (fldP ws = ⟨wd ws 1, wd ws 2⟩) := rfl
  generalize wd ws 0 = x0 at *
  by_cases h3 : ws.length = 3
  case neg =>
    have HN : Hid (o = none) := by show _ = _; rw [HQ.out, if_neg (fun h => h3 h.1)]
    have f1 : ((ws.length : Int) == 3) = false := beq_eq_false_iff_ne.2 (by omega)
    have f2 : ((ws.length : Int) != 3) = true := by rw [bne, f1]; rfl
    have hbw := hA.bw
    clear HO HQ
    go_enter Tryz.func27, Tryz.ntmps27
    go_wp2_with fail
    go_ret
    exact LineR.no HN.out hbw
  have f1 : ((ws.length : Int) == 3) = true := by rw [beq_iff_eq]; omega
  have f2 : ((ws.length : Int) != 3) = false := by rw [bne, f1]; rfl
  have f1i : (1 : Int) < ws.length := by omega
  have f2i : (2 : Int) < ws.length := by omega
  by_cases h4 : 4 ≤ r.pl ∧ r.pl ≤ 5
  case neg =>
    have HN : Hid (o = none) := by show _ = _; rw [HQ.out, if_neg (fun h => h4 h.2)]
    have HP := Lib.hid (pass_no 4 5 5 hA (by omega))
    have hbw := hA.bw
    clear HO HQ h3
    go_enter Tryz.func27, Tryz.ntmps27
    go_wp2_with fail
    refine HP.out.mono ?_
    rintro e w1 ⟨rfl, rfl⟩
    go_wp2_with fail
    go_ret
    exact LineR.no HN.out hbw
  obtain ⟨rfl, hsome⟩ := hp2 h4.1
  obtain ⟨x, rfl⟩ := Option.isSome_iff_exists.1 hsome
  have hrc := hA.rfLen hB
  rw [Option.toList_some, List.length_append] at hrc
  have hrl : rf0.length ≤ 1000000 := by omega
  have hvl := (hA.rfMem hB).1
  have HY : Hid (o = some ⟨r.cs, rf0.map (·.1) ++ [{ x.1 with vars := x.1.vars ++ [fldP ws] }], 5⟩) := by
    show _ = _
    have e := hA.eF
    rw [Option.toList_some, List.map_append, List.map_cons, List.map_nil] at e
    have e : rf0.map (·.1) ++ [x.1] = r.fs := e
    rw [HQ.out, if_pos ⟨h3, h4⟩, ← e, modLast_snoc]
  rw [HFP.out] at HY
  have HP := Lib.hid (pass_set 4 5 5 hA h4.1 h4.2)
  have hA1 := hA.place 5
  have hne := box_ne hbs hA.bx (by decide)
  have hb1 := hbs.setOther (p := ⟨rb, 3, none⟩) hne (.int .i64 (5 : Nat))
  obtain ⟨d1, hgl1⟩ := wd_cell hb1.strs (show 1 < ws.length by omega)
  obtain ⟨d2, _⟩ := wd_cell hb1.strs (show 2 < ws.length by omega)
  generalize wd ws 1 = x1 at *
  generalize wd ws 2 = x2 at *
  clear HO HQ h3 HFP hb1
  go_enter Tryz.func27, Tryz.ntmps27
  go_wp2_with fail
  refine HP.out.mono ?_
  rintro e w1 ⟨rfl, rfl⟩
  generalize W.setCell _ _ = W1 at *
  have oF0 := hA1.oF
  rw [Option.toList_some] at oF0
  obtain ⟨gF, cF, hv⟩ := oF0.someOf (by simp)
  replace hv : vF = .slice (some ⟨gF, 0, none⟩) (rf0.length + 1) cF := by rw [hv]; simp
  subst hv
  have hi : rf0.length < (rf0 ++ [x]).length := by simp
  have hx0 : (rf0 ++ [x])[rf0.length] = x := by simp
  have a2 := oF0.cellOf cellsRF_ok (by simp) hi (j := 4) (u := .slice x.2.1.1 x.1.vars.length x.2.1.2) (by rw [hx0]; rfl)
  have aL := oF0.ltOf.2
  have r1 := hA1.bx.cell 1 rfl
  have rl := hA1.bx.lt
  have hki : ((rf0.length : Int)) < ((rf0.length + 1 : Nat) : Int) := by omega
  clear oF0 hi hx0
  clear hA hbs hgl d0 HP hp0 hp1 hp2 hne hrc
  go_wp2_with fail
  refine wp_region_later (by kernel_rfl) (by kernel_rfl) ?_
  repeat (go_big_quiet_step (fail))
  refine wpQuiet_nil ?_
  rintro _ ⟨z, rfl⟩
  have hR1 := hA1.mono z.h
  have a2' := keptC a2 aL z.h
  have aL' := Nat.lt_of_lt_of_le aL z.h.size
  have d1' := keptC d1 hgl1 z.h
  have d2' := keptC d2 hgl1 z.h
  have hgl' := Nat.lt_of_lt_of_le hgl1 z.h.size
  generalize z.W = W2 at *
  clear a2 aL d1 d2 hgl1 hA1 r1 rl z
  go_upto_region 17 with fail
  have hza := (hR1.mono (bw_drew (Below.refl _ _))).mono (show Below W2.drew.heap.size W2.drew (W2.drew.alloc (.cells #[.string x1, .string x2] 66)) from bw_alloc (Below.refl _ _))
  have bn := Box.new W2.drew [.string x1, .string x2] 66
  have hF := hza.cF x rfl
  have hbase := hza.hm.2
  obtain ⟨v7, w7, hrun, hown7, hb7, hg7, hz7⟩ := run_push fldsTyI cellsFld_ok 40 hF.vars ⟨x1, x2⟩ W2.heap.size 1 (fun j u hu => bn.cell j hu) (by unfold maxLen; omega) (by omega) hbase
  obtain ⟨A7, c7, e7⟩ := hown7.sliceOf
  have hy : FunI w7 m ({ x.1 with vars := x.1.vars ++ [⟨x1, x2⟩] }, (A7, c7), x.2.2) := by
    obtain ⟨rs, k1, k2, k3⟩ := hF.code
    exact ⟨by rw [e7] at hown7; exact hown7, rs, k1.keptTyI hF.vars.rowTyI (by decide) hg7, k2, fun y hy => Own.keptTyI (k3 y hy) hF.vars.rowTyI (by decide) hg7⟩
  replace e7 : v7 = .slice A7 (x.1.vars.length + 1) c7 := by rw [e7]; simp
  subst e7
  obtain ⟨q2, qf, ql, hR2⟩ := hza.updF hF.vars.rowTyI (by decide) (by decide) (by decide) (by decide) (by decide) (fun k hk => (World.ownsRow.lt hF.vars k hk).1) hg7 hy (j := 4) (by decide) (u := .slice A7 (x.1.vars.length + 1) c7) rfl (by simp [cellsRF])
  go_region_law (refine step_appendI rfl (.tmp 114) (.tmp 122) 40 rfl (by simp [Act.eval]) (by simp [Act.eval]) hrun ?_)
  all_goals (go_wp2_with fail; go_ret; exact LineR.yes HY.out (RdSome.ofF hR2 (by simp)))
end Go.Proofs.YticpeombillmeaaGreatDoor
