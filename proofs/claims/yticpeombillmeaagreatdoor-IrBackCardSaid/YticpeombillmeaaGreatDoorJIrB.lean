/-
  Chapter 13: the reader's methods: class, field, method.
-/
import Derived.Test.YticpeombillmeaaGreatDoorJIrA
namespace Go.Proofs.YticpeombillmeaaGreatDoor
open Go.RowKit Go.Deep
set_option linter.unusedVariables false

/-- The reader somewhere in memory, its class or function under way. -/
def RdSome (w0 : World) (rb : Nat) (r : RdI) (W : World) : Prop := ∃ m rc0 rf0 oc of vC vF, RdAt w0 rb r m rc0 rf0 oc of vC vF W ∧ (r.pl = 0 → oc = none ∧ of = none) ∧ (1 ≤ r.pl → r.pl ≤ 3 → oc.isSome = true ∧ of = none) ∧ (4 ≤ r.pl → oc = none ∧ of.isSome = true)
theorem RdSome.mono {w0 W W' : World} {rb : Nat} {r : RdI} (h : RdSome w0 rb r W) (hb : Below W.heap.size W W') : RdSome w0 rb r W' := by
  obtain ⟨m, rc0, rf0, oc, of, vC, vF, h1, h2⟩ := h
  exact ⟨m, rc0, rf0, oc, of, vC, vF, h1.mono hb, h2⟩
theorem RdSome.bel {w0 W : World} {rb : Nat} {r : RdI} (h : RdSome w0 rb r W) : Below w0.heap.size w0 W := by
  obtain ⟨m, rc0, rf0, oc, of, vC, vF, h1, h2⟩ := h
  exact h1.bw
theorem RdSome.ofC {w0 W : World} {rb m : Nat} {r : RdI} {rc0 : List RC} {rf0 : List RFn} {x : RC} {vC vF : Value} (h : RdAt w0 rb r m rc0 rf0 (some x) none vC vF W) (h1 : 1 ≤ r.pl) (h3 : r.pl ≤ 3) : RdSome w0 rb r W :=
  ⟨m, rc0, rf0, some x, none, vC, vF, h, fun e => absurd e (by omega), fun _ _ => ⟨rfl, rfl⟩, fun e => absurd e (by omega)⟩
theorem RdSome.ofF {w0 W : World} {rb m : Nat} {r : RdI} {rc0 : List RC} {rf0 : List RFn} {x : RFn} {vC vF : Value} (h : RdAt w0 rb r m rc0 rf0 none (some x) vC vF W) (h1 : 4 ≤ r.pl) : RdSome w0 rb r W :=
  ⟨m, rc0, rf0, none, some x, vC, vF, h, fun e => absurd e (by omega), fun _ e => absurd e (by omega), fun _ => ⟨rfl, rfl⟩⟩
theorem wd_cell {W : World} {g : Nat} {ws : List ByteArray} (hs : Sl Lay.str W (some ⟨g, 0, none⟩) ws) {i : Nat} (hi : i < ws.length) : W.cell? ⟨g, i, none⟩ = some (.string (wd ws i)) ∧ g < W.heap.size := by
  obtain ⟨b, o, e, hb, d⟩ := hs.str_at hi
  injection e with e
  injection e with z1 z2
  subst z1 z2
  rw [Nat.zero_add] at d
  rw [wd_at hi]
  exact ⟨d, hb⟩
theorem wd_out {ws : List ByteArray} {i : Nat} (h : ws.length ≤ i) : wd ws i = ⟨#[]⟩ := by unfold wd; rw [List.getD_eq_getElem?_getD, List.getElem?_eq_none h]; rfl
theorem lenEq {n k : Nat} (h : n = k) : ((n : Int) == (k : Int)) = true := by rw [beq_iff_eq]; omega
theorem lenNe {n k : Nat} (h : n ≠ k) : ((n : Int) == (k : Int)) = false := beq_eq_false_iff_ne.2 (by omega)

set_option maxHeartbeats 4000000 in
set_option maxRecDepth 100000 in
theorem rdClass {w0 W : World} {rb m g c : Nat} {cs : List Cls} {fs : List Fun} {rc0 : List RC} {rf0 : List RFn} {vC vF : Value} (ws : List ByteArray) (hR : RdAt w0 rb ⟨cs, fs, 1⟩ m rc0 rf0 none none vC vF W) (hs : Sl Lay.str W (some ⟨g, 0, none⟩) ws) (h2 : 2 ≤ ws.length) (h3 : ws.length ≤ 3) (hl : rc0.length ≤ 1000000) :
    Calls Tryz.prog 53 #[.pointer (some ⟨rb, 0, none⟩), .slice (some ⟨g, 0, none⟩) ws.length c] W fun e w' => e = .returned (.bool true) ∧ RdSome w0 rb ⟨cs ++ [clsP ws], fs, 1⟩ w' := by
  obtain ⟨d1, hgl⟩ := wd_cell hs (show 1 < ws.length by omega)
  have HC : Hid (clsP ws = ⟨wd ws 1, wd ws 2, [], []⟩) := rfl
  obtain ⟨A, cC, hv⟩ := hR.oC.sliceOf
  replace hv : vC = .slice A rc0.length cC := by rw [hv]; simp
  subst hv
  by_cases h33 : ws.length = 3
  · have t3 := lenEq h33
    obtain ⟨e2, _⟩ := wd_cell hs (show 2 < ws.length by omega)
    rw [HC.out]
    generalize wd ws 1 = x1 at *
    generalize wd ws 2 = x2 at *
    have h1i : (1 : Int) < ws.length := by omega
    have h2i : (2 : Int) < ws.length := by omega
    clear h2 h3 h33 HC hs
    go_enter Tryz.func53, Tryz.ntmps53
    go_upto_region 4 with fail
    generalize hW : World.alloc _ _ = W1 at *
    have hb1 : Below W.heap.size W W1 := by rw [← hW]; exact (by repeat (first | assumption | exact Below.refl _ _ | apply bw_alloc | apply bw_drew | apply bw_drewN | apply bw_later | apply bw_step))
    have bc : Box W1 W.heap.size [.string x1, .string x2, .slice none 0 0, .slice none 0 0] 64 := by rw [← hW]; exact (by repeat (first | (refine Box.at ?_; (simp; done)) | apply Box.drew | apply Box.alloc | assumption))
    clear hW
    have hR1 := hR.mono hb1
    obtain ⟨gc, hgc⟩ : ∃ gc, gc = W.heap.size := ⟨_, rfl⟩
    rw [← hgc] at bc ⊢
    clear hgc hR hb1 d1 e2
    have p0 := bc.cell 0 rfl
    have p1 := bc.cell 1 rfl
    have p2 := bc.cell 2 rfl
    have p3 := bc.cell 3 rfl
    have pl := bc.lt
    have r0 := hR1.bx.cell 0 rfl
    have rl := hR1.bx.lt
    have hza := (hR1.mono (bw_drew (Below.refl _ _))).mono (show Below W1.drew.heap.size W1.drew (W1.drew.alloc (.cells #[.string x1, .string x2, .slice none 0 0, .slice none 0 0] 64)) from bw_alloc (Below.refl _ _))
    have bn := Box.new W1.drew [.string x1, .string x2, .slice none 0 0, .slice none 0 0] 64
    have oC := hza.oC
    rw [Option.toList_none, List.append_nil] at oC
    obtain ⟨v7, w7, hrun, hown7, hb7, hg7, hz7⟩ := run_push clssTyI cellsRC_ok 22 oC (⟨x1, x2, [], []⟩, (none, 0), none, 0) W1.heap.size 1 (fun j u hu => bn.cell j hu) (by unfold maxLen; omega) (by omega) (by have := hza.bw.size; simpa using this)
    obtain ⟨hbx, hR2⟩ := hza.addC ⟨x1, x2, [], []⟩ rfl rfl hown7 hg7
    obtain ⟨A7, c7, e7⟩ := hown7.sliceOf
    replace e7 : v7 = .slice A7 (rc0.length + 1) c7 := by rw [e7]; simp
    subst e7
    have q0 := hbx.cell 0 rfl
    have qf := fun i => hbx.free i
    have ql := hbx.lt
    go_region_law (refine step_appendI rfl (.tmp 23) (.tmp 25) 22 rfl (by simp [Act.eval]) (by simp [Act.eval]) hrun ?_)
    all_goals (go_wp2_with fail; go_ret; exact ⟨rfl, RdSome.ofC hR2 (by simp) (by simp)⟩)
  · have t3 := lenNe h33
    rw [HC.out, wd_out (ws := ws) (i := 2) (by omega)]
    generalize wd ws 1 = x1 at *
    have h1i : (1 : Int) < ws.length := by omega
    clear h2 h3 h33 HC hs
    go_enter Tryz.func53, Tryz.ntmps53
    go_upto_region 4 with fail
    generalize hW : World.alloc _ _ = W1 at *
    have hb1 : Below W.heap.size W W1 := by rw [← hW]; exact (by repeat (first | assumption | exact Below.refl _ _ | apply bw_alloc | apply bw_drew | apply bw_drewN | apply bw_later | apply bw_step))
    have bc : Box W1 W.heap.size [.string x1, .string ⟨#[]⟩, .slice none 0 0, .slice none 0 0] 64 := by rw [← hW]; exact (by repeat (first | (refine Box.at ?_; (simp; done)) | apply Box.drew | apply Box.alloc | assumption))
    clear hW
    have hR1 := hR.mono hb1
    obtain ⟨gc, hgc⟩ : ∃ gc, gc = W.heap.size := ⟨_, rfl⟩
    rw [← hgc] at bc ⊢
    clear hgc hR hb1 d1 
    have p0 := bc.cell 0 rfl
    have p1 := bc.cell 1 rfl
    have p2 := bc.cell 2 rfl
    have p3 := bc.cell 3 rfl
    have pl := bc.lt
    have r0 := hR1.bx.cell 0 rfl
    have rl := hR1.bx.lt
    have hza := (hR1.mono (bw_drew (Below.refl _ _))).mono (show Below W1.drew.heap.size W1.drew (W1.drew.alloc (.cells #[.string x1, .string ⟨#[]⟩, .slice none 0 0, .slice none 0 0] 64)) from bw_alloc (Below.refl _ _))
    have bn := Box.new W1.drew [.string x1, .string ⟨#[]⟩, .slice none 0 0, .slice none 0 0] 64
    have oC := hza.oC
    rw [Option.toList_none, List.append_nil] at oC
    obtain ⟨v7, w7, hrun, hown7, hb7, hg7, hz7⟩ := run_push clssTyI cellsRC_ok 22 oC (⟨x1, ⟨#[]⟩, [], []⟩, (none, 0), none, 0) W1.heap.size 1 (fun j u hu => bn.cell j hu) (by unfold maxLen; omega) (by omega) (by have := hza.bw.size; simpa using this)
    obtain ⟨hbx, hR2⟩ := hza.addC ⟨x1, ⟨#[]⟩, [], []⟩ rfl rfl hown7 hg7
    obtain ⟨A7, c7, e7⟩ := hown7.sliceOf
    replace e7 : v7 = .slice A7 (rc0.length + 1) c7 := by rw [e7]; simp
    subst e7
    have q0 := hbx.cell 0 rfl
    have qf := fun i => hbx.free i
    have ql := hbx.lt
    go_region_law (refine step_appendI rfl (.tmp 23) (.tmp 25) 22 rfl (by simp [Act.eval]) (by simp [Act.eval]) hrun ?_)
    all_goals (go_wp2_with fail; go_ret; exact ⟨rfl, RdSome.ofC hR2 (by simp) (by simp)⟩)

/-! ### field -/
set_option maxHeartbeats 4000000 in
set_option maxRecDepth 100000 in
theorem rdField {w0 W : World} {rb m g c : Nat} {cs : List Cls} {fs : List Fun} {rc0 : List RC} {rf0 : List RFn} {x : RC} {vC vF : Value} (ws : List ByteArray) (hR : RdAt w0 rb ⟨cs, fs, 2⟩ m rc0 rf0 (some x) none vC vF W) (hs : Sl Lay.str W (some ⟨g, 0, none⟩) ws) (h3 : ws.length = 3) (hl : rc0.length ≤ 1000000) (hfl : x.1.fields.length ≤ 1000000) :
    Calls Tryz.prog 54 #[.pointer (some ⟨rb, 0, none⟩), .slice (some ⟨g, 0, none⟩) ws.length c] W fun e w' => e = .returned (.bool true) ∧ RdSome w0 rb ⟨modLast (fun c => { c with fields := c.fields ++ [fldP ws] }) cs, fs, 2⟩ w' := by
  obtain ⟨d1, hgl⟩ := wd_cell hs (show 1 < ws.length by omega)
  obtain ⟨d2, _⟩ := wd_cell hs (show 2 < ws.length by omega)
  have HC : Hid (fldP ws = ⟨wd ws 1, wd ws 2⟩) := rfl
  have HM : Hid (modLast (fun c => { c with fields := c.fields ++ [fldP ws] }) cs = rc0.map (·.1) ++ [{ x.1 with fields := x.1.fields ++ [fldP ws] }]) := by
    show _ = _
    have e := hR.eC
    rw [Option.toList_some, List.map_append, List.map_cons, List.map_nil] at e
    have e : rc0.map (·.1) ++ [x.1] = cs := e
    rw [← e, modLast_snoc]
  rw [HM.out, HC.out]
  have oC0 := hR.oC
  rw [Option.toList_some] at oC0
  obtain ⟨gC, cC, hv⟩ := oC0.someOf (by simp)
  replace hv : vC = .slice (some ⟨gC, 0, none⟩) (rc0.length + 1) cC := by rw [hv]; simp
  subst hv
  have hi : rc0.length < (rc0 ++ [x]).length := by simp
  have hx0 : (rc0 ++ [x])[rc0.length] = x := by simp
  have a2 := oC0.cellOf cellsRC_ok (by simp) hi (j := 2) (u := .slice x.2.1.1 x.1.fields.length x.2.1.2) (by rw [hx0]; rfl)
  have aL := oC0.ltOf.2
  have r0 := hR.bx.cell 0 rfl
  have rl := hR.bx.lt
  have h1i : (1 : Int) < ws.length := by omega
  have h2i : (2 : Int) < ws.length := by omega
  have hki : ((rc0.length : Int)) < ((rc0.length + 1 : Nat) : Int) := by omega
  generalize wd ws 1 = x1 at *
  generalize wd ws 2 = x2 at *
  clear HC HM hs h3 oC0 hi hx0
  go_enter Tryz.func54, Tryz.ntmps54
  go_wp2_with fail
  refine wp_region_later (by kernel_rfl) (by kernel_rfl) ?_
  repeat (go_big_quiet_step (fail))
  refine wpQuiet_nil ?_
  rintro _ ⟨z, rfl⟩
  have hR1 := hR.mono z.h
  have a2' := keptC a2 aL z.h
  have aL' := Nat.lt_of_lt_of_le aL z.h.size
  have d1' := keptC d1 hgl z.h
  have d2' := keptC d2 hgl z.h
  have hgl' := Nat.lt_of_lt_of_le hgl z.h.size
  generalize z.W = W1 at *
  clear a2 aL d1 d2 hgl hR r0 rl z
  go_upto_region 2 with fail
  have hza := (hR1.mono (bw_drew (Below.refl _ _))).mono (show Below W1.drew.heap.size W1.drew (W1.drew.alloc (.cells #[.string x1, .string x2] 66)) from bw_alloc (Below.refl _ _))
  have bn := Box.new W1.drew [.string x1, .string x2] 66
  have hF := hza.cC x rfl
  have hbase := hza.hm.2
  obtain ⟨v7, w7, hrun, hown7, hb7, hg7, hz7⟩ := run_push fldsTyI cellsFld_ok 40 hF.flds ⟨x1, x2⟩ W1.heap.size 1 (fun j u hu => bn.cell j hu) (by unfold maxLen; omega) (by omega) hbase
  obtain ⟨A7, c7, e7⟩ := hown7.sliceOf
  have hy : ClsI w7 m ({ x.1 with fields := x.1.fields ++ [⟨x1, x2⟩] }, (A7, c7), x.2.2) := by
    obtain ⟨rs, k1, k2, k3⟩ := hF.mths
    exact ⟨by rw [e7] at hown7; exact hown7, rs, k1.keptTyI hF.flds.rowTyI (by decide) hg7, k2, fun y hy => Own.keptTyI (k3 y hy) hF.flds.rowTyI (by decide) hg7⟩
  replace e7 : v7 = .slice A7 (x.1.fields.length + 1) c7 := by rw [e7]; simp
  subst e7
  obtain ⟨q2, qf, ql, hR2⟩ := hza.updC hF.flds.rowTyI (by decide) (by decide) (by decide) (by decide) (by decide) (fun k hk => (World.ownsRow.lt hF.flds k hk).1) hg7 hy (j := 2) (by decide) (u := .slice A7 (x.1.fields.length + 1) c7) rfl (by simp [cellsRC])
  go_region_law (refine step_appendI rfl (.tmp 25) (.tmp 33) 40 rfl (by simp [Act.eval]) (by simp [Act.eval]) hrun ?_)
  all_goals (go_wp2_with fail; go_ret; exact ⟨rfl, RdSome.ofC hR2 (by simp) (by simp)⟩)

/-! ### method -/
def wStatL : List UInt8 := [115, 116, 97, 116, 105, 99]
def wVirtL : List UInt8 := [118, 105, 114, 116, 117, 97, 108]
theorem Sl.dropI2 {w : World} {b o : Nat} {l : List ByteArray} (h : Sl Lay.str w (some ⟨b, o, none⟩) l) (k : Nat) : Sl Lay.str w (some ⟨b, o + k, none⟩) (l.drop k) := fun i x hx => by
  rw [List.getElem?_drop] at hx
  obtain ⟨b', o', vs, e, hlt, hr, hc⟩ := h (k + i) x hx
  injection e with e
  injection e with e1 e2
  subst e1 e2
  refine ⟨_, _, vs, rfl, hlt, hr, fun j v hj => ?_⟩
  have := hc j v hj
  rw [show Lay.str.size = 1 from rfl] at this ⊢
  rw [show o + k + i * 1 + j = o + (k + i) * 1 + j by omega]
  exact this
/-- What the method's line gives: a list with one method more, or false. -/
def MthOk (w0 : World) (rb : Nat) (cs : List Cls) (fs : List Fun) (ws : List ByteArray) (ok : Bool) (w' : World) : Prop := Below w0.heap.size w0 w' ∧ (ok = true → RdSome w0 rb ⟨modLast (fun c => { c with methods := c.methods ++ [mthP ws] }) cs, fs, 3⟩ w')
set_option maxHeartbeats 8000000 in
set_option maxRecDepth 100000 in
theorem rdMeth {w0 W : World} {rb m g : Nat} {cs : List Cls} {fs : List Fun} {rc0 : List RC} {rf0 : List RFn} {x : RC} {vC vF : Value} (ws : List ByteArray) (hR : RdAt w0 rb ⟨cs, fs, 3⟩ m rc0 rf0 (some x) none vC vF W) (hs : Sl Lay.str W (some ⟨g, 0, none⟩) ws) (h4 : 4 ≤ ws.length) (hc2 : ws.length ≤ 1000000) (hl : rc0.length ≤ 1000000) (hfl : x.1.methods.length ≤ 1000000) (ok : Bool) (hok : ok = ((wd ws 2).toList == wStatL || (wd ws 2).toList == wVirtL)) :
    Calls Tryz.prog 55 #[.pointer (some ⟨rb, 0, none⟩), .slice (some ⟨g, 0, none⟩) ws.length ws.length] W fun e w' => e = .returned (.bool ok) ∧ MthOk w0 rb cs fs ws ok w' := by
  obtain ⟨d1, hgl⟩ := wd_cell hs (show 1 < ws.length by omega)
  obtain ⟨d2, _⟩ := wd_cell hs (show 2 < ws.length by omega)
  obtain ⟨d3, _⟩ := wd_cell hs (show 3 < ws.length by omega)
  have HC : Hid (mthP ws = ⟨wd ws 1, (wd ws 2).toList == wStatL, ws.drop 4, if ((wd ws 3).toList == [45]) = true then ⟨#[]⟩ else wd ws 3⟩) := rfl
  have HM : Hid (modLast (fun c => { c with methods := c.methods ++ [mthP ws] }) cs = rc0.map (·.1) ++ [{ x.1 with methods := x.1.methods ++ [mthP ws] }]) := by
    show _ = _
    have e := hR.eC
    rw [Option.toList_some, List.map_append, List.map_cons, List.map_nil] at e
    have e : rc0.map (·.1) ++ [x.1] = cs := e
    rw [← e, modLast_snoc]
  obtain ⟨RES, HRES⟩ : ∃ RES, Hid (RES = if ((wd ws 3).toList == [45]) = true then ⟨#[]⟩ else wd ws 3) := ⟨_, Lib.hid rfl⟩
  have HMK : Hid (∀ w', Below w0.heap.size w0 w' → (ok = true → RdSome w0 rb ⟨rc0.map (·.1) ++ [{ x.1 with methods := x.1.methods ++ [⟨wd ws 1, (wd ws 2).toList == wStatL, ws.drop 4, RES⟩] }], fs, 3⟩ w') → MthOk w0 rb cs fs ws ok w') := fun w' h1 h2 => by
    refine ⟨h1, fun h => ?_⟩
    rw [HM.out, HC.out, ← HRES.out]
    exact h2 h
  generalize hMP : MthOk w0 rb cs fs ws ok = MP at *
  clear hMP
  have hpl : (ws.drop 4).length = ws.length - 4 := List.length_drop
  have hdr := hs.dropI2 4
  rw [Nat.zero_add] at hdr
  have HCL : Hid (∀ W', Below W.heap.size W W' → Calls Tryz.prog 85 #[if ws.length = 4 then .slice (some ⟨g, 0, none⟩) 0 0 else .slice (some ⟨g, 4, none⟩) (ws.length - 4) (ws.length - 4)] W' fun e w' => (∃ v, e = .returned v ∧ Own cellsStr 1 W'.heap.size 9 w' v (ws.drop 4)) ∧ Below W'.heap.size W' w') := fun W' hW' => by
    by_cases h : ws.length = 4
    · rw [if_pos h]
      have e : ws.drop 4 = [] := List.drop_eq_nil_of_le (by omega)
      rw [e]
      exact cloneStrs_any (some ⟨g, 0, none⟩) 0 [] W' (by simp) Sl.nil
    · rw [if_neg h, ← hpl]
      exact cloneStrs_any (some ⟨g, 4, none⟩) _ (ws.drop 4) W' (by omega) (hdr.mono hW')
  have oC0 := hR.oC
  rw [Option.toList_some] at oC0
  obtain ⟨gC, cC, hv⟩ := oC0.someOf (by simp)
  replace hv : vC = .slice (some ⟨gC, 0, none⟩) (rc0.length + 1) cC := by rw [hv]; simp
  subst hv
  have hi : rc0.length < (rc0 ++ [x]).length := by simp
  have hx0 : (rc0 ++ [x])[rc0.length] = x := by simp
  have a2 := oC0.cellOf cellsRC_ok (by simp) hi (j := 3) (u := .slice x.2.2.1 x.1.methods.length x.2.2.2) (by rw [hx0]; rfl)
  have aL := oC0.ltOf.2
  have r0 := hR.bx.cell 0 rfl
  have rl := hR.bx.lt
  have h1i : (1 : Int) < ws.length := by omega
  have h2i : (2 : Int) < ws.length := by omega
  have h3i : (3 : Int) < ws.length := by omega
  have h4i : (4 : Int) ≤ ws.length := by omega
  have hki : ((rc0.length : Int)) < ((rc0.length + 1 : Nat) : Int) := by omega
  generalize wd ws 1 = x1 at *
  generalize wd ws 2 = x2 at *
  generalize wd ws 3 = x3 at *
  generalize ws.drop 4 = ps at *
  generalize ws.length = n at *
  generalize hst0 : (x2.toList == wStatL) = st at *
  have hst : (x2.toList == ([115, 116, 97, 116, 105, 99] : List UInt8)) = st := hst0
  clear hst0 HC HM hs oC0 hi hx0 hdr hpl
  go_enter Tryz.func55, Tryz.ntmps55
  go_upto_region 1 with fail
  go_cut [5] (fun s5 wx => ∃ gs AP cP, s5 = .pointer (some ⟨gs, 0, none⟩) ∧ Box wx gs [.string x1, .bool st, .slice AP ps.length cP, .string ByteArray.empty] 68 ∧ Own cellsStr 1 0 9 wx (.slice AP ps.length cP) ps ∧ Below W.heap.size W wx ∧ W.heap.size ≤ gs)
  case first =>
    by_cases h5 : n = 4
    · subst h5
      rw [if_pos rfl] at HCL
      refine wp_region_RZ 13 (by kernel_rfl) (by kernel_rfl) ?_
      refine RZ.chunk (f := 4) [0, 1, 2, 3, 4, 5, 6, 7, 8] (by kernel_rfl) ?_
      ((simp only [pickOps, List.filterMap, List.getElem?_toArray, List.getElem?_cons_zero, List.getElem?_cons_succ]); (repeat (go_big_quiet_step (fail))); refine wpQuiet_nil ?_)
      refine RZ.both 9 11 rfl rfl (by kernel_rfl) (by omega) (by omega) ?_ ?_
      · intro K hK
        go_wp2_with fail
        refine (HCL.out _ (Below.refl _ _).drew).mono ?_
        rintro e w6 ⟨⟨v6, rfl, ho6⟩, hb6⟩
        obtain ⟨AP, cP, hv⟩ := ho6.sliceOf
        subst hv
        have hb6' : Below W.heap.size W w6 := below_step (Below.refl _ _).drew hb6
        have hp6 := ho6.base0 (Nat.zero_le _)
        go_wp2_with fail
        refine hK _ _ hb6 ?_
        clear hK
        refine RZ.both 10 11 rfl rfl (by kernel_rfl) (by omega) (by omega) ?_ ?_
        · intro K hK
          go_wp2_with fail
          refine hK _ _ hb6 ?_
          clear hK
          refine RZ.single 11 rfl (by kernel_rfl) (by omega) ?_
          intro K hK
          go_wp2_with fail
          refine hK _ _ (bw_alloc hb6) ?_
          clear hK
          refine RZ.single 12 rfl (by kernel_rfl) (by omega) ?_
          intro K hK
          go_wp2_with fail
          refine hK _ _ (bw_alloc hb6) ?_
          clear hK
          (refine RZ.done (by kernel_rfl) (by kernel_rfl) ?_)
          go_wp2_with fail
          go_meet
          exact ⟨_, AP, cP, rfl, Box.new _ _ _, hp6.alloc _, bw_alloc hb6', hb6'.size⟩
        · intro K hK
          go_wp2_with fail
          refine hK _ _ (bw_alloc hb6) ?_
          clear hK
          refine RZ.single 10 rfl (by kernel_rfl) (by omega) ?_
          intro K hK
          go_wp2_with fail
          refine hK _ _ (bw_alloc hb6) ?_
          clear hK
          refine RZ.single 12 rfl (by kernel_rfl) (by omega) ?_
          intro K hK
          go_wp2_with fail
          refine hK _ _ (bw_alloc hb6) ?_
          clear hK
          (refine RZ.done (by kernel_rfl) (by kernel_rfl) ?_)
          go_wp2_with fail
          go_meet
          exact ⟨_, AP, cP, rfl, Box.new _ _ _, hp6.alloc _, bw_alloc hb6', hb6'.size⟩
      · intro K hK
        go_wp2_with fail
        refine hK _ _ (bw_alloc (Below.refl _ _)) ?_
        clear hK
        generalize hW : World.drew (World.alloc _ _) = W2
        have hbz : Below W.drew.heap.size W.drew W2 := by rw [← hW]; exact bw_alloc (Below.refl _ _)
        have hbz2 : Below W.heap.size W W2 := below_step (Below.refl _ _).drew hbz
        have byz : Box W2 W.heap.size [.string ByteArray.empty, .bool false, .slice none 0 0, .string ByteArray.empty] 68 := by rw [← hW]; exact (Box.new _ _ _).drew
        clear hW
        refine RZ.single 9 rfl (by kernel_rfl) (by omega) ?_
        intro K hK
        go_wp2_with fail
        refine (HCL.out _ hbz2).mono ?_
        rintro e w6 ⟨⟨v6, rfl, ho6⟩, hb6⟩
        obtain ⟨AP, cP, hv⟩ := ho6.sliceOf
        subst hv
        have hb7 := below_step hbz hb6
        have hb7' : Below W.heap.size W w6 := below_step hbz2 hb6
        have hp6 := ho6.base0 (Nat.zero_le _)
        have by6 := byz.mono hb6
        go_wp2_with fail
        refine hK _ _ hb7 ?_
        clear hK
        refine RZ.single 10 rfl (by kernel_rfl) (by omega) ?_
        intro K hK
        go_wp2_with fail
        refine hK _ _ hb7 ?_
        clear hK
        have yl6 := by6.lt
        have yf := fun i => by6.free i
        have y0 := by6.cell 0 rfl
        have y1 := by6.cell 1 rfl
        have y2 := by6.cell 2 rfl
        have y3 := by6.cell 3 rfl
        obtain ⟨by9, hg9⟩ := by6.store4 (.string x1) (.bool st) (.slice AP ps.length cP) (.string ByteArray.empty)
        have hb9 := hb7'.grown hg9 hb7'.size (fun k hk => by injection hk with hk; omega)
        have hb9d := hb7.grown hg9 hb7.size (fun k hk => by injection hk with hk; have : W.drew.heap.size = W.heap.size := rfl; omega)
        have hp9 := hp6.keptTyI by6.rowTyI (by decide) hg9
        refine RZ.single 12 rfl (by kernel_rfl) (by omega) ?_
        intro K hK
        go_wp2_with fail
        refine hK _ _ hb9d ?_
        clear hK
        (refine RZ.done (by kernel_rfl) (by kernel_rfl) ?_)
        go_wp2_with fail
        go_meet
        exact ⟨_, AP, cP, rfl, by9, hp9, hb9, Nat.le_refl _⟩
    · obtain ⟨n, rfl⟩ : ∃ q, n = q + 5 := ⟨n - 5, by omega⟩
      rw [if_neg h5] at HCL
      refine wp_region_RZ 13 (by kernel_rfl) (by kernel_rfl) ?_
      refine RZ.chunk (f := 4) [0, 1, 2, 3, 4, 5, 6, 7, 8] (by kernel_rfl) ?_
      ((simp only [pickOps, List.filterMap, List.getElem?_toArray, List.getElem?_cons_zero, List.getElem?_cons_succ]); (repeat (go_big_quiet_step (fail))); refine wpQuiet_nil ?_)
      refine RZ.both 9 11 rfl rfl (by kernel_rfl) (by omega) (by omega) ?_ ?_
      · intro K hK
        go_wp2_with fail
        refine (HCL.out _ (Below.refl _ _).drew).mono ?_
        rintro e w6 ⟨⟨v6, rfl, ho6⟩, hb6⟩
        obtain ⟨AP, cP, hv⟩ := ho6.sliceOf
        subst hv
        have hb6' : Below W.heap.size W w6 := below_step (Below.refl _ _).drew hb6
        have hp6 := ho6.base0 (Nat.zero_le _)
        go_wp2_with fail
        refine hK _ _ hb6 ?_
        clear hK
        refine RZ.both 10 11 rfl rfl (by kernel_rfl) (by omega) (by omega) ?_ ?_
        · intro K hK
          go_wp2_with fail
          refine hK _ _ hb6 ?_
          clear hK
          refine RZ.single 11 rfl (by kernel_rfl) (by omega) ?_
          intro K hK
          go_wp2_with fail
          refine hK _ _ (bw_alloc hb6) ?_
          clear hK
          refine RZ.single 12 rfl (by kernel_rfl) (by omega) ?_
          intro K hK
          go_wp2_with fail
          refine hK _ _ (bw_alloc hb6) ?_
          clear hK
          (refine RZ.done (by kernel_rfl) (by kernel_rfl) ?_)
          go_wp2_with fail
          go_meet
          exact ⟨_, AP, cP, rfl, Box.new _ _ _, hp6.alloc _, bw_alloc hb6', hb6'.size⟩
        · intro K hK
          go_wp2_with fail
          refine hK _ _ (bw_alloc hb6) ?_
          clear hK
          refine RZ.single 10 rfl (by kernel_rfl) (by omega) ?_
          intro K hK
          go_wp2_with fail
          refine hK _ _ (bw_alloc hb6) ?_
          clear hK
          refine RZ.single 12 rfl (by kernel_rfl) (by omega) ?_
          intro K hK
          go_wp2_with fail
          refine hK _ _ (bw_alloc hb6) ?_
          clear hK
          (refine RZ.done (by kernel_rfl) (by kernel_rfl) ?_)
          go_wp2_with fail
          go_meet
          exact ⟨_, AP, cP, rfl, Box.new _ _ _, hp6.alloc _, bw_alloc hb6', hb6'.size⟩
      · intro K hK
        go_wp2_with fail
        refine hK _ _ (bw_alloc (Below.refl _ _)) ?_
        clear hK
        generalize hW : World.drew (World.alloc _ _) = W2
        have hbz : Below W.drew.heap.size W.drew W2 := by rw [← hW]; exact bw_alloc (Below.refl _ _)
        have hbz2 : Below W.heap.size W W2 := below_step (Below.refl _ _).drew hbz
        have byz : Box W2 W.heap.size [.string ByteArray.empty, .bool false, .slice none 0 0, .string ByteArray.empty] 68 := by rw [← hW]; exact (Box.new _ _ _).drew
        clear hW
        refine RZ.single 9 rfl (by kernel_rfl) (by omega) ?_
        intro K hK
        go_wp2_with fail
        refine (HCL.out _ hbz2).mono ?_
        rintro e w6 ⟨⟨v6, rfl, ho6⟩, hb6⟩
        obtain ⟨AP, cP, hv⟩ := ho6.sliceOf
        subst hv
        have hb7 := below_step hbz hb6
        have hb7' : Below W.heap.size W w6 := below_step hbz2 hb6
        have hp6 := ho6.base0 (Nat.zero_le _)
        have by6 := byz.mono hb6
        go_wp2_with fail
        refine hK _ _ hb7 ?_
        clear hK
        refine RZ.single 10 rfl (by kernel_rfl) (by omega) ?_
        intro K hK
        go_wp2_with fail
        refine hK _ _ hb7 ?_
        clear hK
        have yl6 := by6.lt
        have yf := fun i => by6.free i
        have y0 := by6.cell 0 rfl
        have y1 := by6.cell 1 rfl
        have y2 := by6.cell 2 rfl
        have y3 := by6.cell 3 rfl
        obtain ⟨by9, hg9⟩ := by6.store4 (.string x1) (.bool st) (.slice AP ps.length cP) (.string ByteArray.empty)
        have hb9 := hb7'.grown hg9 hb7'.size (fun k hk => by injection hk with hk; omega)
        have hb9d := hb7.grown hg9 hb7.size (fun k hk => by injection hk with hk; have : W.drew.heap.size = W.heap.size := rfl; omega)
        have hp9 := hp6.keptTyI by6.rowTyI (by decide) hg9
        refine RZ.single 12 rfl (by kernel_rfl) (by omega) ?_
        intro K hK
        go_wp2_with fail
        refine hK _ _ hb9d ?_
        clear hK
        (refine RZ.done (by kernel_rfl) (by kernel_rfl) ?_)
        go_wp2_with fail
        go_meet
        exact ⟨_, AP, cP, rfl, by9, hp9, hb9, Nat.le_refl _⟩
  case rest =>
  obtain ⟨gs, AP, cP, rfl, bs, hps, hb, hgs⟩ := hcut
  have e2 := keptC d2 hgl hb
  have e3 := keptC d3 hgl hb
  have hgw := Nat.lt_of_lt_of_le hgl hb.size
  clear d1 d2 d3 hgl r0 rl HCL
  cases st with
  | true =>
    rw [Bool.true_or] at hok
    subst hok
    clear hst
    have b1 := bs.cell 1 rfl
    have bl := bs.lt
    cases hd : (x3.toList == ([45] : List UInt8)) with
    | true =>
      have t3 : (x3.toList != ([45] : List UInt8)) = false := by rw [bne, hd]; rfl
      have HRV : Hid (RES = ⟨#[]⟩) := by show _ = _; rw [HRES.out, hd]; rfl
      clear HRES
      have a2' := keptC a2 aL hb
      have aL' := Nat.lt_of_lt_of_le aL hb.size
      have hR1 := hR.mono hb
      clear a2 aL hR hb hgs
      have r0 := hR1.bx.cell 0 rfl
      have rl := hR1.bx.lt
      generalize wc = W1 at *
      go_wp2_with fail
      refine wp_region_later (by kernel_rfl) (by kernel_rfl) ?_
      repeat (go_big_quiet_step (fail))
      refine wpQuiet_nil ?_
      rintro _ ⟨z, rfl⟩
      have hR2 := hR1.mono z.h
      have a2 := keptC a2' aL' z.h
      have aL := Nat.lt_of_lt_of_le aL' z.h.size
      have bz := bs.mono z.h
      have hpz := Own.mono hps z.h
      generalize z.W = W2 at *
      clear a2' aL' hR1 r0 rl z bs hps
      have b0 := bz.cell 0 rfl
      have b1 := bz.cell 1 rfl
      have b2 := bz.cell 2 rfl
      have b3 := bz.cell 3 rfl
      have bl := bz.lt
      go_upto_region 7 with fail
      have hza := (hR2.mono (bw_drew (Below.refl _ _))).mono (show Below W2.drew.heap.size W2.drew (W2.drew.alloc (.cells #[.string x1, .bool true, .slice AP ps.length cP, .string ⟨#[]⟩] 68)) from bw_alloc (Below.refl _ _))
      have bn := Box.new W2.drew [.string x1, .bool true, .slice AP ps.length cP, .string ⟨#[]⟩] 68
      have hpa := (Own.mono hpz (bw_drew (Below.refl _ _))).mono (show Below W2.drew.heap.size W2.drew (W2.drew.alloc (.cells #[.string x1, .bool true, .slice AP ps.length cP, .string ⟨#[]⟩] 68)) from bw_alloc (Below.refl _ _))
      have hF := hza.cC x rfl
      obtain ⟨rs, k1, k2, k3⟩ := hF.mths
      have hbase := hza.hm.2
      have hrl : rs.length = x.1.methods.length := by rw [← k2, List.length_map]
      obtain ⟨v7, w7, hrun, hown7, hb7, hg7, hz7⟩ := run_push sgsTyI cellsRS_ok 62 k1 (⟨x1, true, ps, ⟨#[]⟩⟩, AP, cP) W2.heap.size 1 (fun j u hu => bn.cell j hu) (by rw [hrl]; unfold maxLen; omega) (by rw [hrl]; omega) hbase
      obtain ⟨A7, c7, e7⟩ := hown7.sliceOf
      have hy : ClsI w7 m ({ x.1 with methods := x.1.methods ++ [⟨x1, true, ps, ⟨#[]⟩⟩] }, x.2.1, A7, c7) := by
        refine ⟨hF.flds.keptTyI k1.rowTyI (by decide) hg7, rs ++ [(⟨x1, true, ps, ⟨#[]⟩⟩, AP, cP)], ?_, by rw [List.map_append, k2]; rfl, fun y hy => ?_⟩
        · rw [e7] at hown7
          have e : (rs ++ [((⟨x1, true, ps, ⟨#[]⟩⟩ : Sg), AP, cP)]).length = (x.1.methods ++ [(⟨x1, true, ps, ⟨#[]⟩⟩ : Sg)]).length := by rw [List.length_append, List.length_append, hrl]; rfl
          rw [e] at hown7
          exact hown7
        · rw [List.mem_append, List.mem_singleton] at hy
          rcases hy with hy | rfl
          · exact Own.keptTyI (k3 y hy) k1.rowTyI (by decide) hg7
          · exact Own.keptTyI hpa k1.rowTyI (by decide) hg7
      replace e7 : v7 = .slice A7 (x.1.methods.length + 1) c7 := by rw [e7, List.length_append, hrl]; rfl
      subst e7
      clear hrl
      obtain ⟨q2, qf, ql, hR3⟩ := hza.updC k1.rowTyI (by decide) (by decide) (by decide) (by decide) (by decide) (fun k hk => (World.ownsRow.lt k1 k hk).1) hg7 hy (j := 3) (by decide) (u := .slice A7 (x.1.methods.length + 1) c7) rfl (by simp [cellsRC])
      go_region_law (refine step_appendI rfl (.tmp 54) (.tmp 56) 62 rfl (by simp [Act.eval]) (by simp [Act.eval]) hrun ?_)
      all_goals (go_wp2_with fail; go_ret; exact ⟨rfl, HMK.out _ hR3.bw (fun _ => by rw [HRV.out]; exact RdSome.ofC hR3 (by simp) (by simp))⟩)
    | false =>
      have t3 : (x3.toList != ([45] : List UInt8)) = true := by rw [bne, hd]; rfl
      have HRV : Hid (RES = x3) := by show _ = _; rw [HRES.out, hd]; rfl
      clear HRES
      have f3 := bs.cell 3 rfl
      have ff := fun i => bs.free i
      have fl := bs.lt
      have bs2 := bs.set 3 (.string x3)
      have hps2 := Own.keptTyI hps bs.rowTyI (by decide) (grown_set wc gs 3 (.string x3))
      have hb2 := hb.setCell (p := ⟨gs, 3, none⟩) hgs (.string x3)
      go_upto_region 6 with fail
      generalize World.setCell wc _ _ = wy at *
      clear bs hps hb f3 ff fl b1 bl e2 e3 hgw
      have a2' := keptC a2 aL hb2
      have aL' := Nat.lt_of_lt_of_le aL hb2.size
      have hR1 := hR.mono hb2
      clear a2 aL hR hb2 hgs
      have r0 := hR1.bx.cell 0 rfl
      have rl := hR1.bx.lt
      generalize wy = W1 at *
      refine wp_region_later (by kernel_rfl) (by kernel_rfl) ?_
      repeat (go_big_quiet_step (fail))
      refine wpQuiet_nil ?_
      rintro _ ⟨z, rfl⟩
      have hR2 := hR1.mono z.h
      have a2 := keptC a2' aL' z.h
      have aL := Nat.lt_of_lt_of_le aL' z.h.size
      have bz := bs2.mono z.h
      have hpz := Own.mono hps2 z.h
      generalize z.W = W2 at *
      clear a2' aL' hR1 r0 rl z bs2 hps2
      have b0 := bz.cell 0 rfl
      have b1 := bz.cell 1 rfl
      have b2 := bz.cell 2 rfl
      have b3 := bz.cell 3 rfl
      have bl := bz.lt
      go_upto_region 7 with fail
      have hza := (hR2.mono (bw_drew (Below.refl _ _))).mono (show Below W2.drew.heap.size W2.drew (W2.drew.alloc (.cells #[.string x1, .bool true, .slice AP ps.length cP, .string x3] 68)) from bw_alloc (Below.refl _ _))
      have bn := Box.new W2.drew [.string x1, .bool true, .slice AP ps.length cP, .string x3] 68
      have hpa := (Own.mono hpz (bw_drew (Below.refl _ _))).mono (show Below W2.drew.heap.size W2.drew (W2.drew.alloc (.cells #[.string x1, .bool true, .slice AP ps.length cP, .string x3] 68)) from bw_alloc (Below.refl _ _))
      have hF := hza.cC x rfl
      obtain ⟨rs, k1, k2, k3⟩ := hF.mths
      have hbase := hza.hm.2
      have hrl : rs.length = x.1.methods.length := by rw [← k2, List.length_map]
      obtain ⟨v7, w7, hrun, hown7, hb7, hg7, hz7⟩ := run_push sgsTyI cellsRS_ok 62 k1 (⟨x1, true, ps, x3⟩, AP, cP) W2.heap.size 1 (fun j u hu => bn.cell j hu) (by rw [hrl]; unfold maxLen; omega) (by rw [hrl]; omega) hbase
      obtain ⟨A7, c7, e7⟩ := hown7.sliceOf
      have hy : ClsI w7 m ({ x.1 with methods := x.1.methods ++ [⟨x1, true, ps, x3⟩] }, x.2.1, A7, c7) := by
        refine ⟨hF.flds.keptTyI k1.rowTyI (by decide) hg7, rs ++ [(⟨x1, true, ps, x3⟩, AP, cP)], ?_, by rw [List.map_append, k2]; rfl, fun y hy => ?_⟩
        · rw [e7] at hown7
          have e : (rs ++ [((⟨x1, true, ps, x3⟩ : Sg), AP, cP)]).length = (x.1.methods ++ [(⟨x1, true, ps, x3⟩ : Sg)]).length := by rw [List.length_append, List.length_append, hrl]; rfl
          rw [e] at hown7
          exact hown7
        · rw [List.mem_append, List.mem_singleton] at hy
          rcases hy with hy | rfl
          · exact Own.keptTyI (k3 y hy) k1.rowTyI (by decide) hg7
          · exact Own.keptTyI hpa k1.rowTyI (by decide) hg7
      replace e7 : v7 = .slice A7 (x.1.methods.length + 1) c7 := by rw [e7, List.length_append, hrl]; rfl
      subst e7
      clear hrl
      obtain ⟨q2, qf, ql, hR3⟩ := hza.updC k1.rowTyI (by decide) (by decide) (by decide) (by decide) (by decide) (fun k hk => (World.ownsRow.lt k1 k hk).1) hg7 hy (j := 3) (by decide) (u := .slice A7 (x.1.methods.length + 1) c7) rfl (by simp [cellsRC])
      go_region_law (refine step_appendI rfl (.tmp 54) (.tmp 56) 62 rfl (by simp [Act.eval]) (by simp [Act.eval]) hrun ?_)
      all_goals (go_wp2_with fail; go_ret; exact ⟨rfl, HMK.out _ hR3.bw (fun _ => by rw [HRV.out]; exact RdSome.ofC hR3 (by simp) (by simp))⟩)
  | false =>
    rw [Bool.false_or] at hok
    clear hst
    have b1 := bs.cell 1 rfl
    have bl := bs.lt
    cases hvv : (x2.toList == wVirtL) with
    | true =>
      have t2 : (x2.toList != ([118, 105, 114, 116, 117, 97, 108] : List UInt8)) = false := by
        have : (x2.toList == ([118, 105, 114, 116, 117, 97, 108] : List UInt8)) = true := hvv
        rw [bne, this]; rfl
      have hv2 : (x2.toList == ([118, 105, 114, 116, 117, 97, 108] : List UInt8)) = true := hvv
      rw [hvv] at hok
      subst hok
      clear hvv
      cases hd : (x3.toList == ([45] : List UInt8)) with
      | true =>
        have t3 : (x3.toList != ([45] : List UInt8)) = false := by rw [bne, hd]; rfl
        have HRV : Hid (RES = ⟨#[]⟩) := by show _ = _; rw [HRES.out, hd]; rfl
        clear HRES
        have a2' := keptC a2 aL hb
        have aL' := Nat.lt_of_lt_of_le aL hb.size
        have hR1 := hR.mono hb
        clear a2 aL hR hb hgs
        have r0 := hR1.bx.cell 0 rfl
        have rl := hR1.bx.lt
        generalize wc = W1 at *
        go_wp2_with fail
        refine wp_region_later (by kernel_rfl) (by kernel_rfl) ?_
        repeat (go_big_quiet_step (fail))
        refine wpQuiet_nil ?_
        rintro _ ⟨z, rfl⟩
        have hR2 := hR1.mono z.h
        have a2 := keptC a2' aL' z.h
        have aL := Nat.lt_of_lt_of_le aL' z.h.size
        have bz := bs.mono z.h
        have hpz := Own.mono hps z.h
        generalize z.W = W2 at *
        clear a2' aL' hR1 r0 rl z bs hps
        have b0 := bz.cell 0 rfl
        have b1 := bz.cell 1 rfl
        have b2 := bz.cell 2 rfl
        have b3 := bz.cell 3 rfl
        have bl := bz.lt
        go_upto_region 7 with fail
        have hza := (hR2.mono (bw_drew (Below.refl _ _))).mono (show Below W2.drew.heap.size W2.drew (W2.drew.alloc (.cells #[.string x1, .bool false, .slice AP ps.length cP, .string ⟨#[]⟩] 68)) from bw_alloc (Below.refl _ _))
        have bn := Box.new W2.drew [.string x1, .bool false, .slice AP ps.length cP, .string ⟨#[]⟩] 68
        have hpa := (Own.mono hpz (bw_drew (Below.refl _ _))).mono (show Below W2.drew.heap.size W2.drew (W2.drew.alloc (.cells #[.string x1, .bool false, .slice AP ps.length cP, .string ⟨#[]⟩] 68)) from bw_alloc (Below.refl _ _))
        have hF := hza.cC x rfl
        obtain ⟨rs, k1, k2, k3⟩ := hF.mths
        have hbase := hza.hm.2
        have hrl : rs.length = x.1.methods.length := by rw [← k2, List.length_map]
        obtain ⟨v7, w7, hrun, hown7, hb7, hg7, hz7⟩ := run_push sgsTyI cellsRS_ok 62 k1 (⟨x1, false, ps, ⟨#[]⟩⟩, AP, cP) W2.heap.size 1 (fun j u hu => bn.cell j hu) (by rw [hrl]; unfold maxLen; omega) (by rw [hrl]; omega) hbase
        obtain ⟨A7, c7, e7⟩ := hown7.sliceOf
        have hy : ClsI w7 m ({ x.1 with methods := x.1.methods ++ [⟨x1, false, ps, ⟨#[]⟩⟩] }, x.2.1, A7, c7) := by
          refine ⟨hF.flds.keptTyI k1.rowTyI (by decide) hg7, rs ++ [(⟨x1, false, ps, ⟨#[]⟩⟩, AP, cP)], ?_, by rw [List.map_append, k2]; rfl, fun y hy => ?_⟩
          · rw [e7] at hown7
            have e : (rs ++ [((⟨x1, false, ps, ⟨#[]⟩⟩ : Sg), AP, cP)]).length = (x.1.methods ++ [(⟨x1, false, ps, ⟨#[]⟩⟩ : Sg)]).length := by rw [List.length_append, List.length_append, hrl]; rfl
            rw [e] at hown7
            exact hown7
          · rw [List.mem_append, List.mem_singleton] at hy
            rcases hy with hy | rfl
            · exact Own.keptTyI (k3 y hy) k1.rowTyI (by decide) hg7
            · exact Own.keptTyI hpa k1.rowTyI (by decide) hg7
        replace e7 : v7 = .slice A7 (x.1.methods.length + 1) c7 := by rw [e7, List.length_append, hrl]; rfl
        subst e7
        clear hrl
        obtain ⟨q2, qf, ql, hR3⟩ := hza.updC k1.rowTyI (by decide) (by decide) (by decide) (by decide) (by decide) (fun k hk => (World.ownsRow.lt k1 k hk).1) hg7 hy (j := 3) (by decide) (u := .slice A7 (x.1.methods.length + 1) c7) rfl (by simp [cellsRC])
        go_region_law (refine step_appendI rfl (.tmp 54) (.tmp 56) 62 rfl (by simp [Act.eval]) (by simp [Act.eval]) hrun ?_)
        all_goals (go_wp2_with fail; go_ret; exact ⟨rfl, HMK.out _ hR3.bw (fun _ => by rw [HRV.out]; exact RdSome.ofC hR3 (by simp) (by simp))⟩)
      | false =>
        have t3 : (x3.toList != ([45] : List UInt8)) = true := by rw [bne, hd]; rfl
        have HRV : Hid (RES = x3) := by show _ = _; rw [HRES.out, hd]; rfl
        clear HRES
        have f3 := bs.cell 3 rfl
        have ff := fun i => bs.free i
        have fl := bs.lt
        have bs2 := bs.set 3 (.string x3)
        have hps2 := Own.keptTyI hps bs.rowTyI (by decide) (grown_set wc gs 3 (.string x3))
        have hb2 := hb.setCell (p := ⟨gs, 3, none⟩) hgs (.string x3)
        go_upto_region 6 with fail
        generalize World.setCell wc _ _ = wy at *
        clear bs hps hb f3 ff fl b1 bl e2 e3 hgw
        have a2' := keptC a2 aL hb2
        have aL' := Nat.lt_of_lt_of_le aL hb2.size
        have hR1 := hR.mono hb2
        clear a2 aL hR hb2 hgs
        have r0 := hR1.bx.cell 0 rfl
        have rl := hR1.bx.lt
        generalize wy = W1 at *
        refine wp_region_later (by kernel_rfl) (by kernel_rfl) ?_
        repeat (go_big_quiet_step (fail))
        refine wpQuiet_nil ?_
        rintro _ ⟨z, rfl⟩
        have hR2 := hR1.mono z.h
        have a2 := keptC a2' aL' z.h
        have aL := Nat.lt_of_lt_of_le aL' z.h.size
        have bz := bs2.mono z.h
        have hpz := Own.mono hps2 z.h
        generalize z.W = W2 at *
        clear a2' aL' hR1 r0 rl z bs2 hps2
        have b0 := bz.cell 0 rfl
        have b1 := bz.cell 1 rfl
        have b2 := bz.cell 2 rfl
        have b3 := bz.cell 3 rfl
        have bl := bz.lt
        go_upto_region 7 with fail
        have hza := (hR2.mono (bw_drew (Below.refl _ _))).mono (show Below W2.drew.heap.size W2.drew (W2.drew.alloc (.cells #[.string x1, .bool false, .slice AP ps.length cP, .string x3] 68)) from bw_alloc (Below.refl _ _))
        have bn := Box.new W2.drew [.string x1, .bool false, .slice AP ps.length cP, .string x3] 68
        have hpa := (Own.mono hpz (bw_drew (Below.refl _ _))).mono (show Below W2.drew.heap.size W2.drew (W2.drew.alloc (.cells #[.string x1, .bool false, .slice AP ps.length cP, .string x3] 68)) from bw_alloc (Below.refl _ _))
        have hF := hza.cC x rfl
        obtain ⟨rs, k1, k2, k3⟩ := hF.mths
        have hbase := hza.hm.2
        have hrl : rs.length = x.1.methods.length := by rw [← k2, List.length_map]
        obtain ⟨v7, w7, hrun, hown7, hb7, hg7, hz7⟩ := run_push sgsTyI cellsRS_ok 62 k1 (⟨x1, false, ps, x3⟩, AP, cP) W2.heap.size 1 (fun j u hu => bn.cell j hu) (by rw [hrl]; unfold maxLen; omega) (by rw [hrl]; omega) hbase
        obtain ⟨A7, c7, e7⟩ := hown7.sliceOf
        have hy : ClsI w7 m ({ x.1 with methods := x.1.methods ++ [⟨x1, false, ps, x3⟩] }, x.2.1, A7, c7) := by
          refine ⟨hF.flds.keptTyI k1.rowTyI (by decide) hg7, rs ++ [(⟨x1, false, ps, x3⟩, AP, cP)], ?_, by rw [List.map_append, k2]; rfl, fun y hy => ?_⟩
          · rw [e7] at hown7
            have e : (rs ++ [((⟨x1, false, ps, x3⟩ : Sg), AP, cP)]).length = (x.1.methods ++ [(⟨x1, false, ps, x3⟩ : Sg)]).length := by rw [List.length_append, List.length_append, hrl]; rfl
            rw [e] at hown7
            exact hown7
          · rw [List.mem_append, List.mem_singleton] at hy
            rcases hy with hy | rfl
            · exact Own.keptTyI (k3 y hy) k1.rowTyI (by decide) hg7
            · exact Own.keptTyI hpa k1.rowTyI (by decide) hg7
        replace e7 : v7 = .slice A7 (x.1.methods.length + 1) c7 := by rw [e7, List.length_append, hrl]; rfl
        subst e7
        clear hrl
        obtain ⟨q2, qf, ql, hR3⟩ := hza.updC k1.rowTyI (by decide) (by decide) (by decide) (by decide) (by decide) (fun k hk => (World.ownsRow.lt k1 k hk).1) hg7 hy (j := 3) (by decide) (u := .slice A7 (x.1.methods.length + 1) c7) rfl (by simp [cellsRC])
        go_region_law (refine step_appendI rfl (.tmp 54) (.tmp 56) 62 rfl (by simp [Act.eval]) (by simp [Act.eval]) hrun ?_)
        all_goals (go_wp2_with fail; go_ret; exact ⟨rfl, HMK.out _ hR3.bw (fun _ => by rw [HRV.out]; exact RdSome.ofC hR3 (by simp) (by simp))⟩)
    | false =>
      have t2 : (x2.toList != ([118, 105, 114, 116, 117, 97, 108] : List UInt8)) = true := by
        have : (x2.toList == ([118, 105, 114, 116, 117, 97, 108] : List UInt8)) = false := hvv
        rw [bne, this]; rfl
      have hv2 : (x2.toList == ([118, 105, 114, 116, 117, 97, 108] : List UInt8)) = false := hvv
      rw [hvv] at hok
      subst hok
      clear hvv
      go_wp2_with fail
      go_ret
      exact ⟨rfl, HMK.out _ (below_step hR.bw hb) (fun h => by cases h)⟩
end Go.Proofs.YticpeombillmeaaGreatDoor
