/-
  Chapter 13: the reader's line: an instruction; the line. (Printed by wip/gen/irF.py.)
  Chapter 13: Find, methodOf.
-/
import Derived.Test.YticpeombillmeaaGreatDoorJIrF
namespace Go.Proofs.YticpeombillmeaaGreatDoor
open Go.RowKit Go.Deep
set_option linter.unusedVariables false

set_option maxRecDepth 100000 in
set_option maxHeartbeats 2000000 in
theorem rdLine_ins {w0 W : World} {rb : Nat} {r : RdI} (ws : List ByteArray) (g : Nat) (hR : RdSome w0 rb r W) (hbs : Box W g (ws.map Value.string) 9) (h0 : 0 < ws.length) (hl : ws.length ≤ 1000000) (hz : ∀ x ∈ ws, x.size ≤ 2000000) (hg : Gl3 W) (hB : LenB r) (hk0 : ((wd ws 0).toList == wClass) = false) (hk1 : ((wd ws 0).toList == wField) = false) (hk2 : ((wd ws 0).toList == wMethod) = false) (hk3 : ((wd ws 0).toList == wFunc) = false) (hk4 : ((wd ws 0).toList == wVar) = false) :
    Calls Tryz.prog 27 #[.pointer (some ⟨rb, 0, none⟩), .slice (some ⟨g, 0, none⟩) ws.length ws.length] W fun e w' => LineR w0 rb (lineP r ws) e w' := by
  obtain ⟨o, HO⟩ : ∃ o, Hid (o = lineP r ws) := ⟨_, Lib.hid rfl⟩
  rw [← HO.out]
  obtain ⟨d0, hgl⟩ := wd_cell hbs.strs h0
  have h0i : (0 : Int) < ws.length := by omega
  obtain ⟨m, rc0, rf0, oc, of, vC, vF, hA, hp0, hp1, hp2⟩ := hR
  have t0 : ((wd ws 0).toList == ([99, 108, 97, 115, 115] : List UInt8)) = false := hk0
  have t1 : ((wd ws 0).toList == ([102, 105, 101, 108, 100] : List UInt8)) = false := hk1
  have t2 : ((wd ws 0).toList == ([109, 101, 116, 104, 111, 100] : List UInt8)) = false := hk2
  have t3 : ((wd ws 0).toList == ([102, 117, 110, 99] : List UInt8)) = false := hk3
  have t4 : ((wd ws 0).toList == ([118, 97, 114] : List UInt8)) = false := hk4
  have HQ : Hid (o = match insP ws with
    | none => none
    | some x => if 4 ≤ r.pl ∧ r.pl ≤ 6 then some ⟨r.cs, modLast (fun f => { f with code := f.code ++ [x] }) r.fs, 6⟩ else none) := by
    show _ = _
    rw [HO.out]
    unfold lineP
    rw [if_neg (by rw [hk0]; simp), if_neg (by rw [hk1]; simp), if_neg (by rw [hk2]; simp), if_neg (by rw [hk3]; simp), if_neg (by rw [hk4]; simp)]
    rfl
  have HI := Lib.hid (instrOf_any ws g W hg hbs.strs h0 hl hz)
  obtain ⟨p, HPP⟩ : ∃ p, Hid (p = insP ws) := ⟨_, Lib.hid rfl⟩
  rw [← HPP.out] at HI HQ
  generalize wd ws 0 = x0 at *
  clear HO hz HPP hk0 hk1 hk2 hk3 hk4
  go_enter Tryz.func27, Tryz.ntmps27
  go_wp2_with fail
  refine HI.out.mono ?_
  rintro e w1 ⟨⟨y, A, c, rfl, hy⟩, hb1⟩
  have hA1 := hA.mono hb1
  cases p with
  | none =>
    have HN : Hid (o = none) := HQ
    have hbw := hA1.bw
    unfold insC
    clear HQ HI
    go_wp2_with fail
    go_ret
    exact LineR.no HN.out (bw_alloc hbw)
  | some x' =>
    obtain ⟨rfl, hown⟩ := hy x' rfl
    clear hy HI
    unfold insC
    go_upto_region 20 with fail
    generalize hW : World.alloc _ _ = W1 at *
    have hb2 : Below w1.heap.size w1 W1 := by rw [← hW]; exact (by repeat (first | assumption | exact Below.refl _ _ | apply bw_alloc | apply bw_drew | apply bw_drewN | apply bw_later | apply bw_step))
    have bi : Box W1 w1.heap.size [.int .i64 x'.op, .int .i64 x'.dst, .int .i64 x'.a, .int .i64 x'.b, .int .i64 x'.n, .string x'.cls, .string x'.name, .slice A x'.args.length c, .int .i64 x'.jmp, .int .i64 x'.hnd] 47 := by rw [← hW]; exact (by repeat (first | (refine Box.at ?_; (simp; done)) | apply Box.drew | apply Box.alloc | assumption))
    clear hW
    have hA2 := hA1.mono hb2
    have hown2 := hown.mono hb2
    generalize w1.heap.size = gi at *
    by_cases h4 : 4 ≤ r.pl ∧ r.pl ≤ 6
    case neg =>
      have HN : Hid (o = none) := by show _ = _; rw [HQ.out]; exact if_neg h4
      have HP := Lib.hid (pass_no 4 6 6 hA2 (by omega))
      have hbw := hA2.bw
      clear HQ
      go_wp2_with fail
      refine HP.out.mono ?_
      rintro e w2 ⟨rfl, rfl⟩
      go_wp2_with fail
      go_ret
      exact LineR.no HN.out hbw
    obtain ⟨rfl, hsome⟩ := hp2 h4.1
    obtain ⟨x, rfl⟩ := Option.isSome_iff_exists.1 hsome
    have hrc := hA.rfLen hB
    rw [Option.toList_some, List.length_append] at hrc
    have hrl : rf0.length ≤ 1000000 := by omega
    have hvl := (hA.rfMem hB).2
    have HY : Hid (o = some ⟨r.cs, rf0.map (·.1) ++ [{ x.1 with code := x.1.code ++ [x'] }], 6⟩) := by
      show _ = _
      have e := hA.eF
      rw [Option.toList_some, List.map_append, List.map_cons, List.map_nil] at e
      have e : rf0.map (·.1) ++ [x.1] = r.fs := e
      rw [HQ.out]
      show (if 4 ≤ r.pl ∧ r.pl ≤ 6 then _ else _) = _
      rw [if_pos h4, ← e, modLast_snoc]
    have HP := Lib.hid (pass_set 4 6 6 hA2 h4.1 h4.2)
    have hA3 := hA2.place 6
    have bi3 := bi.setOther (p := ⟨rb, 3, none⟩) (box_ne bi hA2.bx (by decide)) (.int .i64 (6 : Nat))
    have hown3 := hown2.keptTyI hA2.bx.rowTyI (by decide) (grown_set W1 rb 3 (.int .i64 (6 : Nat)))
    clear HQ
    go_wp2_with fail
    refine HP.out.mono ?_
    rintro e w2 ⟨rfl, rfl⟩
    generalize W1.setCell _ _ = W2 at *
    have oF0 := hA3.oF
    rw [Option.toList_some] at oF0
    obtain ⟨gF, cF, hv⟩ := oF0.someOf (by simp)
    replace hv : vF = .slice (some ⟨gF, 0, none⟩) (rf0.length + 1) cF := by rw [hv]; simp
    subst hv
    have hi : rf0.length < (rf0 ++ [x]).length := by simp
    have hx0 : (rf0 ++ [x])[rf0.length] = x := by simp
    have a2 := oF0.cellOf cellsRF_ok (by simp) hi (j := 6) (u := .slice x.2.2.1 x.1.code.length x.2.2.2) (by rw [hx0]; rfl)
    have aL := oF0.ltOf.2
    have r1 := hA3.bx.cell 1 rfl
    have rl := hA3.bx.lt
    have hki : ((rf0.length : Int)) < ((rf0.length + 1 : Nat) : Int) := by omega
    clear oF0 hi hx0
    clear hA hA1 hA2 hown hown2 hbs hgl d0 HP hp0 hp1 hp2 hrc bi hb1 hb2
    go_wp2_with fail
    refine wp_region_later (by kernel_rfl) (by kernel_rfl) ?_
    repeat (go_big_quiet_step (fail))
    refine wpQuiet_nil ?_
    rintro _ ⟨z, rfl⟩
    have hR1 := hA3.mono z.h
    have a2' := keptC a2 aL z.h
    have aL' := Nat.lt_of_lt_of_le aL z.h.size
    have bz := bi3.mono z.h
    have hoz := hown3.mono z.h
    generalize z.W = W3 at *
    clear a2 aL hA3 r1 rl z bi3 hown3
    have y0 := bz.cell 0 rfl
    have y1 := bz.cell 1 rfl
    have y2 := bz.cell 2 rfl
    have y3 := bz.cell 3 rfl
    have y4 := bz.cell 4 rfl
    have y5 := bz.cell 5 rfl
    have y6 := bz.cell 6 rfl
    have y7 := bz.cell 7 rfl
    have y8 := bz.cell 8 rfl
    have y9 := bz.cell 9 rfl
    have yl := bz.lt
    go_upto_region 23 with fail
    have hza := (hR1.mono (bw_drew (Below.refl _ _))).mono (show Below W3.drew.heap.size W3.drew (W3.drew.alloc (.cells #[.int .i64 x'.op, .int .i64 x'.dst, .int .i64 x'.a, .int .i64 x'.b, .int .i64 x'.n, .string x'.cls, .string x'.name, .slice A x'.args.length c, .int .i64 x'.jmp, .int .i64 x'.hnd] 47)) from bw_alloc (Below.refl _ _))
    have bn := Box.new W3.drew [.int .i64 x'.op, .int .i64 x'.dst, .int .i64 x'.a, .int .i64 x'.b, .int .i64 x'.n, .string x'.cls, .string x'.name, .slice A x'.args.length c, .int .i64 x'.jmp, .int .i64 x'.hnd] 47
    have hoa := (Own.mono hoz (bw_drew (Below.refl _ _))).mono (show Below W3.drew.heap.size W3.drew (W3.drew.alloc (.cells #[.int .i64 x'.op, .int .i64 x'.dst, .int .i64 x'.a, .int .i64 x'.b, .int .i64 x'.n, .string x'.cls, .string x'.name, .slice A x'.args.length c, .int .i64 x'.jmp, .int .i64 x'.hnd] 47)) from bw_alloc (Below.refl _ _))
    have hF := hza.cF x rfl
    obtain ⟨rs, k1, k2, k3⟩ := hF.code
    have hbase := hza.hm.2
    have hrs : rs.length = x.1.code.length := by rw [← k2, List.length_map]
    obtain ⟨v7, w7, hrun, hown7, hb7, hg7, hz7⟩ := run_push inssTyI cellsRI_ok 41 k1 (x', A, c) W3.heap.size 1 (fun j u hu => bn.cell j hu) (by rw [hrs]; unfold maxLen; omega) (by rw [hrs]; omega) hbase
    obtain ⟨A7, c7, e7⟩ := hown7.sliceOf
    have hy : FunI w7 m ({ x.1 with code := x.1.code ++ [x'] }, x.2.1, A7, c7) := by
      refine ⟨hF.vars.keptTyI k1.rowTyI (by decide) hg7, rs ++ [(x', A, c)], ?_, by rw [List.map_append, k2]; rfl, fun y hy => ?_⟩
      · rw [e7] at hown7
        have e : (rs ++ [((x', A, c) : RI)]).length = (x.1.code ++ [x']).length := by rw [List.length_append, List.length_append, hrs]; rfl
        rw [e] at hown7
        exact hown7
      · rw [List.mem_append, List.mem_singleton] at hy
        rcases hy with hy | rfl
        · exact Own.keptTyI (k3 y hy) k1.rowTyI (by decide) hg7
        · exact Own.keptTyI hoa k1.rowTyI (by decide) hg7
    replace e7 : v7 = .slice A7 (x.1.code.length + 1) c7 := by rw [e7, List.length_append, hrs]; rfl
    subst e7
    clear hrs
    obtain ⟨q2, qf, ql, hR3⟩ := hza.updF k1.rowTyI (by decide) (by decide) (by decide) (by decide) (by decide) (fun k hk => (World.ownsRow.lt k1 k hk).1) hg7 hy (j := 6) (by decide) (u := .slice A7 (x.1.code.length + 1) c7) rfl (by simp [cellsRF])
    go_region_law (refine step_appendI rfl (.tmp 155) (.tmp 157) 41 rfl (by simp [Act.eval]) (by simp [Act.eval]) hrun ?_)
    all_goals (go_wp2_with fail; go_ret; exact LineR.yes HY.out (RdSome.ofF hR3 (by simp)))
theorem rdLine {w0 W : World} {rb : Nat} {r : RdI} (ws : List ByteArray) (g : Nat) (hR : RdSome w0 rb r W) (hbs : Box W g (ws.map Value.string) 9) (h0 : 0 < ws.length) (hl : ws.length ≤ 1000000) (hz : ∀ x ∈ ws, x.size ≤ 2000000) (hg : Gl3 W) (hB : LenB r) :
    Calls Tryz.prog 27 #[.pointer (some ⟨rb, 0, none⟩), .slice (some ⟨g, 0, none⟩) ws.length ws.length] W fun e w' => LineR w0 rb (lineP r ws) e w' := by
  cases k0 : ((wd ws 0).toList == wClass) with
  | true => exact rdLine_cls ws g hR hbs h0 hl hz hg hB k0
  | false =>
  cases k1 : ((wd ws 0).toList == wField) with
  | true => exact rdLine_fld ws g hR hbs h0 hl hz hg hB k1
  | false =>
  cases k2 : ((wd ws 0).toList == wMethod) with
  | true => exact rdLine_mth ws g hR hbs h0 hl hz hg hB k2
  | false =>
  cases k3 : ((wd ws 0).toList == wFunc) with
  | true => exact rdLine_fun ws g hR hbs h0 hl hz hg hB k3
  | false =>
  cases k4 : ((wd ws 0).toList == wVar) with
  | true => exact rdLine_var ws g hR hbs h0 hl hz hg hB k4
  | false => exact rdLine_ins ws g hR hbs h0 hl hz hg hB k0 k1 k2 k3 k4
end Go.Proofs.YticpeombillmeaaGreatDoor
namespace Go.Proofs.YticpeombillmeaaGreatDoor
open Go.RowKit
set_option linter.unusedVariables false

/-! ### ir.Find -/
theorem irFindLit (B1 B2 : Nat) (x : Fun) (A4 A6 : Option Addr) (c4 c6 : Nat) (s t : ByteArray) (w : World) (h1 : B1 < w.heap.size) (h2 : B2 < w.heap.size) (d1 : w.cell? ⟨B1, 0, none⟩ = some (.string s)) (d2 : w.cell? ⟨B2, 0, none⟩ = some (.string t)) :
    Calls Tryz.prog 32 #[.agg #[.string x.cls, .string x.name, .bool x.static, .int .i64 x.nparams, .slice A4 x.vars.length c4, .string x.result, .slice A6 x.code.length c6], .pointer (some ⟨B1, 0, none⟩), .pointer (some ⟨B2, 0, none⟩)] w fun e w' => e = .returned (.bool (isFun s t x)) ∧ Below w.heap.size w w' := by
  have HF : Hid (isFun s t x = (x.cls.toList == s.toList && x.name.toList == t.toList)) := rfl
  rw [HF.out]
  cases hq : (x.cls.toList == s.toList) with
  | true =>
    go_enter Tryz.func32, Tryz.ntmps32
    go_wp2_with fail
    go_ret
    exact ⟨by rw [Bool.true_and]; rfl, bw_alloc (Below.refl _ _)⟩
  | false =>
    go_enter Tryz.func32, Tryz.ntmps32
    go_wp2_with fail
    go_ret
    exact ⟨by rw [Bool.false_and]; rfl, bw_alloc (Below.refl _ _)⟩
set_option maxHeartbeats 1000000 in
theorem irFindIdx (A : Option Addr) (c B1 B2 : Nat) (l : List Fun) (s t : ByteArray) (w : World) (hl : l.length ≤ 9223372036854775807) (hs : Sl Lay.fun w A l) (h1 : B1 < w.heap.size) (h2 : B2 < w.heap.size) (d1 : w.cell? ⟨B1, 0, none⟩ = some (.string s)) (d2 : w.cell? ⟨B2, 0, none⟩ = some (.string t)) :
    Calls Tryz.prog 31 #[.slice A l.length c, .func (.func 32) #[] #[.pointer (some ⟨B1, 0, none⟩), .pointer (some ⟨B2, 0, none⟩)]] w fun e w' => e = .returned (.int .i64 (findU l s t)) ∧ Below w.heap.size w w' := by
  have HFU : Hid (findU l s t = idxI (isFun s t) l) := rfl
  rw [HFU.out]
  go_enter Tryz.func31, Tryz.ntmps31
  go_wp2_with fail
  go_loopw [5, 8] (fun j i wr => ∃ k : Nat, k ≤ l.length ∧ i = .int .i64 k ∧ Hid (∀ i (hi : i < k) (hi2 : i < l.length), isFun s t l[i] = false) ∧ Below w.heap.size w wr) (fun _ i _ => l.length - (intOf i).toNat)
  case atStart => exact ⟨0, Nat.zero_le _, rfl, fun i hi => by omega, Below.refl _ _⟩
  case round =>
    obtain ⟨k, hk, rfl, HN, hbw⟩ := hrel
    by_cases hlt : k < l.length
    · obtain ⟨b, o, A4, c4, A6, c6, rfl, hb, e0, e1, e2, e3, e4, e5, e6, hc4, hs4, hc6, hs6⟩ := (hs.mono hbw).fun_at hlt
      go_wp2_with fail
      refine (irFindLit B1 B2 l[k] A4 A6 c4 c6 s t _ (Nat.lt_of_lt_of_le h1 hbw.size) (Nat.lt_of_lt_of_le h2 hbw.size) (by rw [hbw.cell h1]; exact d1) (by rw [hbw.cell h2]; exact d2)).mono ?_
      rintro e w1 ⟨rfl, hb1⟩
      cases hq : isFun s t l[k] with
      | true =>
        have HE := Lib.hid (idxI_at hlt (fun i hi => HN.out i hi (by omega)) hq)
        clear hq
        go_wp2_with fail
        go_ret
        exact ⟨by rw [HE.out]; rfl, below_step hbw hb1⟩
      | false =>
        have HE : Hid (∀ i (hi : i < k + 1) (hi2 : i < l.length), isFun s t l[i] = false) := fun i hi hi2 => by
          by_cases e : i = k
          · subst e; exact hq
          · exact HN.out i (by omega) hi2
        clear hq
        go_wp2_with fail
        go_roundw
        case rel => exact ⟨k + 1, by omega, by go_num, HE, below_step hbw hb1⟩
        case measure => simp [intOf]; omega
    · have HE := Lib.hid (idxI_none (p := isFun s t) (l := l) (fun i hi => HN.out i (by omega) hi))
      go_wp2_with fail
      go_ret
      exact ⟨by rw [HE.out]; rfl, hbw⟩
theorem irFind_any (A0 A : Option Addr) (n0 c0 c : Nat) (mn : Int) (l : List Fun) (s t : ByteArray) (w : World) (hl : l.length ≤ 9223372036854775807) (hs : Sl Lay.fun w A l) :
    Calls Tryz.prog 10 #[.agg #[.slice A0 n0 c0, .slice A l.length c, .int .i64 mn], .string s, .string t] w fun e w' => e = .returned (.int .i64 (findU l s t)) ∧ Below w.heap.size w w' := by
  have hb0 : Below w.heap.size w (((w.alloc (.cells #[.slice A0 n0 c0, .slice A l.length c, .int .i64 mn] 27)).alloc (.cells #[.string s] 9)).alloc (.cells #[.string t] 9)) := (by repeat (first | assumption | exact Below.refl _ _ | apply bw_alloc | apply bw_drew | apply bw_drewN | apply bw_later | apply bw_step))
  have b1 : Box (((w.alloc (.cells #[.slice A0 n0 c0, .slice A l.length c, .int .i64 mn] 27)).alloc (.cells #[.string s] 9)).alloc (.cells #[.string t] 9)) (w.heap.size + 1) [.string s] 9 := (Box.at (by simp)).alloc _
  have b2 : Box (((w.alloc (.cells #[.slice A0 n0 c0, .slice A l.length c, .int .i64 mn] 27)).alloc (.cells #[.string s] 9)).alloc (.cells #[.string t] 9)) (w.heap.size + 2) [.string t] 9 := Box.at (by simp)
  have HC := Lib.hid (irFindIdx A c (w.heap.size + 1) (w.heap.size + 2) l s t _ hl (hs.mono hb0) b1.lt b2.lt (b1.cell 0 rfl) (b2.cell 0 rfl))
  go_enter Tryz.func10, Tryz.ntmps10
  go_wp2_with fail
  refine HC.out.mono ?_
  rintro e w1 ⟨rfl, hb1⟩
  go_wp2_with fail
  go_ret
  exact ⟨rfl, below_step hb0 hb1⟩

/-! ### methodOf -/
def RetMo (o : Option Sg) (e : Ending) : Prop := ∃ (g : Sg) (A : Option Addr) (c : Nat), e = .returned (.tuple #[.agg #[.string g.name, .bool g.static, .slice A g.params.length c, .string g.result], .bool o.isSome]) ∧ ∀ y, o = some y → y = g
def pfM (cl m : ByteArray) (c : Cls) : Option Sg := if (c.name.toList == cl.toList) = true then c.methods.find? (isSg m) else none
theorem methodOf_pf (cs : List Cls) (cl m : ByteArray) : methodOf cs cl m = cs.findSome? (pfM cl m) := rfl
theorem findSome_none {α β : Type} {f : α → Option β} {l : List α} (h : ∀ j (hj : j < l.length), f l[j] = none) : l.findSome? f = none := by
  rw [List.findSome?_eq_none_iff]
  intro x hx
  obtain ⟨j, hj, rfl⟩ := List.getElem_of_mem hx
  exact h j hj
set_option maxRecDepth 100000 in
set_option maxHeartbeats 2000000 in
theorem methodOf_any (A : Option Addr) (c : Nat) (cs : List Cls) (cl m : ByteArray) (w : World) (hl : cs.length ≤ 1000000) (hml : ∀ c ∈ cs, c.methods.length ≤ 1000000) (hs : Sl Lay.cls w A cs) :
    Calls Tryz.prog 57 #[.agg #[.slice A cs.length c], .string cl, .string m] w fun e w' => RetMo (methodOf cs cl m) e ∧ Below w.heap.size w w' := by
  obtain ⟨R, HR⟩ : ∃ R, Hid (R = cs.findSome? (pfM cl m)) := ⟨_, Lib.hid rfl⟩
  rw [methodOf_pf, ← HR.out]
  have HML := Lib.hid hml
  go_enter Tryz.func57, Tryz.ntmps57
  go_upto_region 1 with fail
  generalize hW : World.alloc _ _ = W1 at *
  have hb1 : Below w.heap.size w W1 := by rw [← hW]; exact (by repeat (first | assumption | exact Below.refl _ _ | apply bw_alloc | apply bw_drew | apply bw_drewN | apply bw_later | apply bw_step))
  have bh : Box W1 w.heap.size [.slice A cs.length c] 24 := by rw [← hW]; exact (by repeat (first | (refine Box.at ?_; (simp; done)) | apply Box.drew | apply Box.alloc | assumption))
  have bz : Box W1 (w.heap.size + 1) [.string ⟨#[]⟩, .bool false, .slice none 0 0, .string ⟨#[]⟩] 68 := by rw [← hW]; exact (by repeat (first | (refine Box.at ?_; (simp; done)) | apply Box.drew | apply Box.alloc | assumption))
  clear hW
  have p0 := bh.cell 0 rfl
  have pl := bh.lt
  go_wp2_with fail
  clear p0 pl bh
  go_loopw [15] (fun i wr => ∃ k : Nat, k ≤ cs.length ∧ i = .int .i64 k ∧ Hid (∀ j (hj : j < cs.length), j < k → pfM cl m cs[j] = none) ∧ Below W1.heap.size W1 wr) (fun i _ => cs.length - (intOf i).toNat)
  case atStart => exact ⟨0, Nat.zero_le _, rfl, fun j hj h => by omega, Below.refl _ _⟩
  case round =>
    obtain ⟨k, hk, rfl, HN, hbr⟩ := hrel
    by_cases hlt : k < cs.length
    · obtain ⟨b, o, A2, c2, A3, c3, rfl, hb, d0, d1, d2, d3, hc2, hs2, hc3, hs3⟩ := (hs.mono (below_step hb1 hbr)).cls_at hlt
      have hmk := HML.out _ (List.getElem_mem hlt)
      have HP : Hid (pfM cl m cs[k] = if (cs[k].name.toList == cl.toList) = true then cs[k].methods.find? (isSg m) else none) := rfl
      have HFOUND : Hid (∀ y, pfM cl m cs[k] = some y → R = some y) := fun y hy => by
        rw [HR.out]
        exact findSome_at hlt (fun j hj => HN.out j (by omega) hj) hy
      have HNEXT : Hid (pfM cl m cs[k] = none → ∀ j (hj : j < cs.length), j < k + 1 → pfM cl m cs[j] = none) := fun h j hj hjk => by
        rcases (show j < k ∨ j = k by omega) with h1 | rfl
        · exact HN.out j hj h1
        · exact h
      obtain ⟨P, HPE⟩ : ∃ P, Hid (P = pfM cl m cs[k]) := ⟨_, Lib.hid rfl⟩
      rw [← HPE.out] at HP HFOUND HNEXT
      generalize cs[k] = C at *
      go_upto_region 4 with fail
      generalize hW : World.alloc _ _ = W2 at *
      have hb2 : Below wr.heap.size wr W2 := by rw [← hW]; exact (by repeat (first | assumption | exact Below.refl _ _ | apply bw_alloc | apply bw_drew | apply bw_drewN | apply bw_later | apply bw_step))
      have bc : Box W2 wr.heap.size [.string C.name, .string C.super, .slice A2 C.fields.length c2, .slice A3 C.methods.length c3] 64 := by rw [← hW]; exact (by repeat (first | (refine Box.at ?_; (simp; done)) | apply Box.drew | apply Box.alloc | assumption))
      have hs3' := hs3.mono hb2
      clear hW d0 d1 d2 d3 hb hs2 hs3
      have hbr2 := below_step hbr hb2
      have q0 := bc.cell 0 rfl
      have q3 := bc.cell 3 rfl
      have ql := bc.lt
      cases hq : (C.name.toList == cl.toList) with
      | false =>
        have t1 : (C.name.toList != cl.toList) = true := by rw [bne, hq]; rfl
        have HPN : Hid (P = none) := by show _ = _; rw [HP.out, hq]; rfl
        have HE := Lib.hid (HNEXT.out HPN.out)
        clear HNEXT HFOUND HP HPN HPE
        go_wp2_with fail
        go_roundw
        case rel => exact ⟨k + 1, by omega, by go_num, HE, hbr2⟩
        case measure => simp [intOf]; omega
      | true =>
        have t1 : (C.name.toList != cl.toList) = false := by rw [bne, hq]; rfl
        have HPY : Hid (P = C.methods.find? (isSg m)) := by show _ = _; rw [HP.out, hq]; rfl
        clear HP HPE
        go_wp2_with fail
        clear q0 q3 ql hq t1
        obtain ⟨wo, hwo⟩ : ∃ wo : World, wo = wr := ⟨_, rfl⟩
        subst hwo
        go_loopw [26] (fun i wr => ∃ q : Nat, q ≤ C.methods.length ∧ i = .int .i64 q ∧ Hid (∀ j (hj : j < C.methods.length), j < q → isSg m C.methods[j] = false) ∧ Below W2.heap.size W2 wr) (fun i _ => C.methods.length - (intOf i).toNat)
        case atStart => exact ⟨0, Nat.zero_le _, rfl, fun j hj h => by omega, Below.refl _ _⟩
        case round =>
          obtain ⟨q, hqq, rfl, HM, hbm⟩ := hrel
          by_cases hql : q < C.methods.length
          · obtain ⟨bm, om, A5, c5, rfl, hbmm, f0, f1, f2, f3, hc5, hs5⟩ := (hs3'.mono hbm).sg_at hql
            have hbW := below_step hbr2 hbm
            generalize hMM : C.methods[q] = M at *
            have HMQ : Hid (isSg m M = (M.name.toList == m.toList)) := rfl
            have HFM : Hid (isSg m M = true → P = some M) := fun h => by
              rw [HPY.out, List.find?_eq_some_iff_getElem]
              exact ⟨h, q, hql, hMM, fun j hj => by rw [HM.out j (by omega) hj]; rfl⟩
            have HNX : Hid (isSg m M = false → ∀ j (hj : j < C.methods.length), j < q + 1 → isSg m C.methods[j] = false) := fun h j hj hjq => by
              rcases (show j < q ∨ j = q by omega) with h1 | h1
              · exact HM.out j hj h1
              · subst h1; rw [hMM]; exact h
            clear hMM HM
            go_upto_region 8 with fail
            generalize hW : World.alloc _ _ = W3 at *
            have hb3 : Below wr.heap.size wr W3 := by rw [← hW]; exact (by repeat (first | assumption | exact Below.refl _ _ | apply bw_alloc | apply bw_drew | apply bw_drewN | apply bw_later | apply bw_step))
            have bs : Box W3 wr.heap.size [.string M.name, .bool M.static, .slice A5 M.params.length c5, .string M.result] 68 := by rw [← hW]; exact (by repeat (first | (refine Box.at ?_; (simp; done)) | apply Box.drew | apply Box.alloc | assumption))
            clear hW f0 f1 f2 f3 hbmm hs5
            have hbm3 := below_step hbm hb3
            have hbW3 := below_step hbW hb3
            have s0 := bs.cell 0 rfl
            have s1 := bs.cell 1 rfl
            have s2 := bs.cell 2 rfl
            have s3 := bs.cell 3 rfl
            have sl := bs.lt
            cases hq : (M.name.toList == m.toList) with
            | true =>
              have HRM := Lib.hid (HFOUND.out M (HFM.out (by rw [HMQ.out]; exact hq)))
              have BZ := bz.mono hbW3
              have y0 := BZ.cell 0 rfl
              have y1 := BZ.cell 1 rfl
              have y2 := BZ.cell 2 rfl
              have y3 := BZ.cell 3 rfl
              have yf := fun i => BZ.free i
              have yl := BZ.lt
              obtain ⟨bz9, hg9⟩ := BZ.store4 (.string M.name) (.bool M.static) (.slice A5 M.params.length c5) (.string M.result)
              have hb9 := (below_step hb1 hbW3).grown hg9 (below_step hb1 hbW3).size (fun k hk => by injection hk with hk; omega)
              clear HFOUND HNEXT HFM HNX HPY
              go_wp2_with fail
              clear y0 y1 y2 y3 yf yl
              generalize World.setCell _ _ _ = wz at *
              have z0 := bz9.cell 0 rfl
              have z1 := bz9.cell 1 rfl
              have z2 := bz9.cell 2 rfl
              have z3 := bz9.cell 3 rfl
              refine bodyPost_ret (v := .tuple #[.agg #[.string M.name, .bool M.static, .slice A5 M.params.length c5, .string M.result], .bool true]) (by simp [results, Tryz.results57, go_sem, z0, z1, z2, z3]) rfl ⟨⟨M, A5, c5, by rw [HRM.out]; rfl, fun y hy => by rw [HRM.out] at hy; injection hy with hy; exact hy.symm⟩, hb9⟩
            | false =>
              have HE2 := Lib.hid (HNX.out (by rw [HMQ.out]; exact hq))
              clear HFM HNX
              go_wp2_with fail
              go_roundw
              case rel => exact ⟨q + 1, by omega, by go_num, HE2, hbm3⟩
              case measure => simp [intOf]; omega
          · have HPN : Hid (P = none) := by
              show _ = _
              rw [HPY.out, List.find?_eq_none]
              intro x hx
              obtain ⟨j, hj, rfl⟩ := List.getElem_of_mem hx
              rw [HM.out j hj (by omega)]
              simp
            have HE := Lib.hid (HNEXT.out HPN.out)
            go_wp2_with fail
            go_roundw
            case rel => exact ⟨k + 1, by omega, by go_num, HE, below_step hbr2 hbm⟩
            case measure => simp [intOf]; omega
    · obtain rfl : k = cs.length := by omega
      have HRN : Hid (R = none) := by
        show _ = _
        rw [HR.out]
        exact findSome_none (fun j hj => HN.out j hj hj)
      have BZ := bz.mono hbr
      have y0 := BZ.cell 0 rfl
      have y1 := BZ.cell 1 rfl
      have y2 := BZ.cell 2 rfl
      have y3 := BZ.cell 3 rfl
      have yf := fun i => BZ.free i
      have yl := BZ.lt
      obtain ⟨bz9, hg9⟩ := BZ.store4 (.string ⟨#[]⟩) (.bool false) (.slice none 0 0) (.string ⟨#[]⟩)
      have hb9 := (below_step hb1 hbr).grown hg9 (below_step hb1 hbr).size (fun k hk => by injection hk with hk; omega)
      clear HR HN
      go_wp2_with fail
      clear y0 y1 y2 y3 yf yl
      generalize World.setCell _ _ _ = wz at *
      have z0 := bz9.cell 0 rfl
      have z1 := bz9.cell 1 rfl
      have z2 := bz9.cell 2 rfl
      have z3 := bz9.cell 3 rfl
      refine bodyPost_ret (v := .tuple #[.agg #[.string ⟨#[]⟩, .bool false, .slice none 0 0, .string ⟨#[]⟩], .bool false]) (by simp [results, Tryz.results57, go_sem, z0, z1, z2, z3]) rfl ⟨⟨⟨⟨#[]⟩, false, [], ⟨#[]⟩⟩, none, 0, by rw [HRN.out]; rfl, fun y hy => (by rw [HRN.out] at hy; cases hy)⟩, hb9⟩
end Go.Proofs.YticpeombillmeaaGreatDoor
