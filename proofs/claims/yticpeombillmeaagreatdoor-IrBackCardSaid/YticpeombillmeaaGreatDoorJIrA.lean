/-
  Chapter 13: the reader's methods: pass, class, field, method.
-/
import Derived.Deep.RegionLaw
import Derived.Test.YticpeombillmeaaGreatDoorJIrN
import Derived.Test.YticpeombillmeaaGreatDoorJIrT
namespace Go.Proofs.YticpeombillmeaaGreatDoor
open Go.RowKit Go.Deep
set_option linter.unusedVariables false

theorem step_appendI {P : Program} {ops : Array Oper} {o : Oper} {a : Act} {w w' : World} {K : Act → World → Prop} {Q : Exit → Act → World → Prop} {E : Prop}
    (hg : o.guard = none) (s x : Operand) (t : TypeId) (hop : o.op = Op.call { callee := Callee.builtin Builtin.append, args := #[s, x], argTypes := #[t, t] })
    {v u v' : Value} (hs : a.eval s = v) (hx : a.eval x = u) (hrun : (Builtin.append_ #[t, t] o.type #[v, u]).run P w = .ok v' w') (hK : K (a.put o.dst v') w') :
    if Region.wanted o (yielded ops a.tmps) = true then Oper.wp P o a w K Q else E := by
  have hw : Region.wanted o (yielded ops a.tmps) = true := by simp [Region.wanted, hg]
  rw [if_pos hw]
  unfold Oper.wp
  simp [execOp, hop, resolve, invoke, builtin, hs, hx, hrun, Result.andThen]
  exact hK

/-! ### What an append and a store leave of the reader -/
section
variable {w0 W W' : World} {rb m : Nat} {r : RdI} {rc0 : List RC} {rf0 : List RFn} {oc : Option RC} {of : Option RFn} {vC vF : Value}
theorem RowTyI.mono {row : Option Nat} {t : TypeId} (h : RowTyI W row t) (hg : W.grownBy W' none) : RowTyI W' row t := fun b hb => by
  obtain ⟨cs, fr, h1⟩ := h b hb
  exact ⟨cs, fr, by rw [hg.block b (Array.getElem?_eq_some_iff.1 h1).1 (by simp)]; exact h1⟩
/-- A class more: behind the append and behind the store. -/
theorem RdAt.addC (h : RdAt w0 rb r m rc0 rf0 none none vC vF W) (c : Cls) (hc1 : c.fields = []) (hc2 : c.methods = []) {v' : Value}
    (ho : Own cellsRC 4 w0.heap.size 64 W' v' (rc0 ++ [(c, (none, 0), none, 0)])) (hg : W.grownBy W' vC.ownBlock) :
    Box W' rb [vC, vF, .int .i64 0, .int .i64 r.pl] 74 ∧ RdAt w0 rb ⟨r.cs ++ [c], r.fs, r.pl⟩ m rc0 rf0 (some (c, (none, 0), none, 0)) none v' vF (W'.setCell ⟨rb, 0, none⟩ v') := by
  have hr := h.oC.rowTyI
  have hbx : Box W' rb [vC, vF, .int .i64 0, .int .i64 r.pl] 74 := h.bx.grown hg (h.oC.ne_box h.bx (by decide))
  have hg2 := grown_set W' rb 0 v'
  have hr2 := hbx.rowTyI
  have hbx2 := hbx.set 0 v'
  have eC := h.eC
  rw [Option.toList_none, List.append_nil] at eC
  have hlt : ∀ k, vC.ownBlock = some k → w0.heap.size ≤ k := fun k hk => (World.ownsRow.lt h.oC k hk).1
  refine ⟨hbx, ⟨hbx2, h.rbw, ho.keptTyI hr2 (by decide) hg2, (h.oF.keptTyI hr (by decide) hg).keptTyI hr2 (by decide) hg2, by simp [eC], h.eF, fun x hx => ?_, fun x hx => ?_, fun x hx => ?_, fun x hx => (by cases hx), ⟨h.hm.1, ?_⟩, ?_⟩⟩
  · exact ((h.dC x hx).kept hr (by decide) (Or.inl ⟨by decide, by decide⟩) hg).kept hr2 (by decide) (Or.inl ⟨by decide, by decide⟩) hg2
  · exact ((h.dF x hx).kept hr (by decide) (Or.inl ⟨by decide, by decide⟩) hg).kept hr2 (by decide) (Or.inl ⟨by decide, by decide⟩) hg2
  · obtain rfl : (c, (none, 0), none, 0) = x := by injection hx
    refine ⟨?_, [], ?_, ?_, fun x hx => (by cases hx)⟩
    · show Own cellsFld 2 m _ _ (.slice none c.fields.length 0) c.fields
      rw [hc1]; exact Own.nil
    · show Own cellsRS 4 m _ _ (.slice none c.methods.length 0) []
      rw [hc2]; exact Own.nil
    · show [] = c.methods
      rw [hc2]
  · exact Nat.le_trans h.hm.2 (Nat.le_trans hg.size hg2.size)
  · exact ((h.bw.grown hg h.bw.size hlt)).grown hg2 (Nat.le_trans h.bw.size hg.size) (fun k hk => by injection hk with hk; rw [← hk]; exact h.rbw)
/-- A function more. -/
theorem RdAt.addF (h : RdAt w0 rb r m rc0 rf0 none none vC vF W) (f : Fun) (hc1 : f.vars = []) (hc2 : f.code = []) {v' : Value}
    (ho : Own cellsRF 7 w0.heap.size 43 W' v' (rf0 ++ [(f, (none, 0), none, 0)])) (hg : W.grownBy W' vF.ownBlock) :
    Box W' rb [vC, vF, .int .i64 0, .int .i64 r.pl] 74 ∧ RdAt w0 rb ⟨r.cs, r.fs ++ [f], r.pl⟩ m rc0 rf0 none (some (f, (none, 0), none, 0)) vC v' (W'.setCell ⟨rb, 1, none⟩ v') := by
  have hr := h.oF.rowTyI
  have hbx : Box W' rb [vC, vF, .int .i64 0, .int .i64 r.pl] 74 := h.bx.grown hg (h.oF.ne_box h.bx (by decide))
  have hg2 := grown_set W' rb 1 v'
  have hr2 := hbx.rowTyI
  have hbx2 := hbx.set 1 v'
  have eF := h.eF
  rw [Option.toList_none, List.append_nil] at eF
  have hlt : ∀ k, vF.ownBlock = some k → w0.heap.size ≤ k := fun k hk => (World.ownsRow.lt h.oF k hk).1
  refine ⟨hbx, ⟨hbx2, h.rbw, (h.oC.keptTyI hr (by decide) hg).keptTyI hr2 (by decide) hg2, ho.keptTyI hr2 (by decide) hg2, h.eC, by simp [eF], fun x hx => ?_, fun x hx => ?_, fun x hx => (by cases hx), fun x hx => ?_, ⟨h.hm.1, ?_⟩, ?_⟩⟩
  · exact ((h.dC x hx).kept hr (by decide) (Or.inl ⟨by decide, by decide⟩) hg).kept hr2 (by decide) (Or.inl ⟨by decide, by decide⟩) hg2
  · exact ((h.dF x hx).kept hr (by decide) (Or.inl ⟨by decide, by decide⟩) hg).kept hr2 (by decide) (Or.inl ⟨by decide, by decide⟩) hg2
  · obtain rfl : (f, (none, 0), none, 0) = x := by injection hx
    refine ⟨?_, [], ?_, ?_, fun x hx => (by cases hx)⟩
    · show Own cellsFld 2 m _ _ (.slice none f.vars.length 0) f.vars
      rw [hc1]; exact Own.nil
    · show Own cellsRI 10 m _ _ (.slice none f.code.length 0) []
      rw [hc2]; exact Own.nil
    · show [] = f.code
      rw [hc2]
  · exact Nat.le_trans h.hm.2 (Nat.le_trans hg.size hg2.size)
  · exact ((h.bw.grown hg h.bw.size hlt)).grown hg2 (Nat.le_trans h.bw.size hg.size) (fun k hk => by injection hk with hk; rw [← hk]; exact h.rbw)
/-- A member more of the class under way: a row from m on has grown; then the class's cell j is stored. -/
theorem RdAt.updC {x y : RC} {g n c : Nat} (h : RdAt w0 rb r m rc0 rf0 (some x) none (.slice (some ⟨g, 0, none⟩) n c) vF W) {row : Option Nat} {t : TypeId} (hr : RowTyI W row t)
    (h1 : 9 ≠ t) (h2 : 3 ≠ t) (h3 : 64 ≠ t) (h4 : 43 ≠ t) (h5 : 74 ≠ t) (hge : ∀ k, row = some k → m ≤ k) (hg : W.grownBy W' row)
    (hy : ClsI W' m y) {j : Nat} (hj : j < 4) {u old : Value} (hold : (cellsRC x)[j]? = some old) (hcy : cellsRC y = (cellsRC x).set j u) :
    W'.cell? ⟨g, rc0.length * 4 + j, none⟩ = some old ∧ W'.frozen? ⟨g, rc0.length * 4 + j, none⟩ = false ∧ g < W'.heap.size ∧
    RdAt w0 rb ⟨rc0.map (·.1) ++ [y.1], r.fs, r.pl⟩ m rc0 rf0 (some y) none (.slice (some ⟨g, 0, none⟩) n c) vF (W'.setCell ⟨g, rc0.length * 4 + j, none⟩ u) := by
  have oC := h.oC.keptTyI hr h3 hg
  rw [Option.toList_some] at oC
  have hn : (rc0 ++ [x]).length = n := by
    have hO := h.oC
    rw [Option.toList_some] at hO
    obtain ⟨A, c', e⟩ := hO.sliceOf
    injection e with _ e _
    exact e.symm
  have hi : rc0.length < (rc0 ++ [x]).length := by simp
  have hx : (rc0 ++ [x])[rc0.length] = x := by simp
  have oF := h.oF.keptTyI hr h4 hg
  have hbx : Box W' rb [.slice (some ⟨g, 0, none⟩) n c, vF, .int .i64 0, .int .i64 r.pl] 74 := h.bx.grown hg fun e => by
    obtain ⟨cs, fr, hk⟩ := hr rb e.symm
    have hb := h.bx
    unfold Box at hb
    rw [hb] at hk
    injection hk with hk
    injection hk with _ hk _
    exact h5 hk
  have hg2 := grown_set W' g (rc0.length * 4 + j) u
  have hgb := oC.ltOf
  have hr2 : RowTyI W' (some g) 64 := oC.rowTyI
  refine ⟨oC.cellOf cellsRC_ok hn hi (by rw [hx]; exact hold), oC.freeOf hn _, hgb.2, ⟨hbx.setOther (p := ⟨g, _, none⟩) (fun e => ?_) u, h.rbw, ?_, oF.keptTyI hr2 (by decide) hg2, by simp, h.eF, fun z hz => ?_, fun z hz => ?_, fun z hz => ?_, fun z hz => (by cases hz), ⟨h.hm.1, Nat.le_trans h.hm.2 (Nat.le_trans hg.size hg2.size)⟩, ?_⟩⟩
  · have e : g = rb := e
    obtain ⟨cs, fr, hk⟩ := hr2 g rfl
    have hb := hbx
    unfold Box at hb
    rw [← e, hk] at hb
    injection hb with hb
    injection hb with _ hb _
    exact absurd hb (by decide)
  · have := oC.setAt cellsRC_ok hn hi hj u y (by rw [hx]; exact hcy)
    rw [List.set_append_right _ _ (Nat.le_refl _), Nat.sub_self, List.set_cons_zero] at this
    rw [Option.toList_some]
    exact this
  · exact ((h.dC z hz).kept hr h1 (Or.inr hge) hg).kept hr2 (by decide) (Or.inl ⟨by decide, by decide⟩) hg2
  · exact ((h.dF z hz).kept hr h2 (Or.inr hge) hg).kept hr2 (by decide) (Or.inl ⟨by decide, by decide⟩) hg2
  · obtain rfl : y = z := by injection hz
    exact hy.kept hr2 (by decide) (by decide) (by decide) hg2
  · exact (h.bw.grown hg h.bw.size fun k hk => Nat.le_trans h.hm.1 (hge k hk)).grown hg2 (Nat.le_trans h.bw.size hg.size) (fun k hk => by injection hk with hk; rw [← hk]; exact hgb.1)
/-- A member more of the function under way. -/
theorem RdAt.updF {x y : RFn} {g n c : Nat} (h : RdAt w0 rb r m rc0 rf0 none (some x) vC (.slice (some ⟨g, 0, none⟩) n c) W) {row : Option Nat} {t : TypeId} (hr : RowTyI W row t)
    (h1 : 9 ≠ t) (h2 : 3 ≠ t) (h3 : 64 ≠ t) (h4 : 43 ≠ t) (h5 : 74 ≠ t) (hge : ∀ k, row = some k → m ≤ k) (hg : W.grownBy W' row)
    (hy : FunI W' m y) {j : Nat} (hj : j < 7) {u old : Value} (hold : (cellsRF x)[j]? = some old) (hcy : cellsRF y = (cellsRF x).set j u) :
    W'.cell? ⟨g, rf0.length * 7 + j, none⟩ = some old ∧ W'.frozen? ⟨g, rf0.length * 7 + j, none⟩ = false ∧ g < W'.heap.size ∧
    RdAt w0 rb ⟨r.cs, rf0.map (·.1) ++ [y.1], r.pl⟩ m rc0 rf0 none (some y) vC (.slice (some ⟨g, 0, none⟩) n c) (W'.setCell ⟨g, rf0.length * 7 + j, none⟩ u) := by
  have oF := h.oF.keptTyI hr h4 hg
  rw [Option.toList_some] at oF
  have hn : (rf0 ++ [x]).length = n := by
    have hO := h.oF
    rw [Option.toList_some] at hO
    obtain ⟨A, c', e⟩ := hO.sliceOf
    injection e with _ e _
    exact e.symm
  have hi : rf0.length < (rf0 ++ [x]).length := by simp
  have hx : (rf0 ++ [x])[rf0.length] = x := by simp
  have oC := h.oC.keptTyI hr h3 hg
  have hbx : Box W' rb [vC, .slice (some ⟨g, 0, none⟩) n c, .int .i64 0, .int .i64 r.pl] 74 := h.bx.grown hg fun e => by
    obtain ⟨cs, fr, hk⟩ := hr rb e.symm
    have hb := h.bx
    unfold Box at hb
    rw [hb] at hk
    injection hk with hk
    injection hk with _ hk _
    exact h5 hk
  have hg2 := grown_set W' g (rf0.length * 7 + j) u
  have hgb := oF.ltOf
  have hr2 : RowTyI W' (some g) 43 := oF.rowTyI
  refine ⟨oF.cellOf cellsRF_ok hn hi (by rw [hx]; exact hold), oF.freeOf hn _, hgb.2, ⟨hbx.setOther (p := ⟨g, _, none⟩) (fun e => ?_) u, h.rbw, oC.keptTyI hr2 (by decide) hg2, ?_, h.eC, by simp, fun z hz => ?_, fun z hz => ?_, fun z hz => (by cases hz), fun z hz => ?_, ⟨h.hm.1, Nat.le_trans h.hm.2 (Nat.le_trans hg.size hg2.size)⟩, ?_⟩⟩
  · have e : g = rb := e
    obtain ⟨cs, fr, hk⟩ := hr2 g rfl
    have hb := hbx
    unfold Box at hb
    rw [← e, hk] at hb
    injection hb with hb
    injection hb with _ hb _
    exact absurd hb (by decide)
  · have := oF.setAt cellsRF_ok hn hi hj u y (by rw [hx]; exact hcy)
    rw [List.set_append_right _ _ (Nat.le_refl _), Nat.sub_self, List.set_cons_zero] at this
    rw [Option.toList_some]
    exact this
  · exact ((h.dC z hz).kept hr h1 (Or.inr hge) hg).kept hr2 (by decide) (Or.inl ⟨by decide, by decide⟩) hg2
  · exact ((h.dF z hz).kept hr h2 (Or.inr hge) hg).kept hr2 (by decide) (Or.inl ⟨by decide, by decide⟩) hg2
  · obtain rfl : y = z := by injection hz
    exact hy.kept hr2 (by decide) (by decide) (by decide) hg2
  · exact (h.bw.grown hg h.bw.size fun k hk => Nat.le_trans h.hm.1 (hge k hk)).grown hg2 (Nat.le_trans h.bw.size hg.size) (fun k hk => by injection hk with hk; rw [← hk]; exact hgb.1)
end

/-! ### pass -/
theorem pass_no {w0 W : World} {rb m : Nat} {r : RdI} {rc0 : List RC} {rf0 : List RFn} {oc : Option RC} {of : Option RFn} {vC vF : Value} (a b p : Nat) (hR : RdAt w0 rb r m rc0 rf0 oc of vC vF W) (hn : r.pl < a ∨ b < r.pl) :
    Calls Tryz.prog 52 #[.pointer (some ⟨rb, 0, none⟩), .int .i64 a, .int .i64 b, .int .i64 p] W fun e w' => e = .returned (.bool false) ∧ W = w' := by
  have q3 := hR.bx.cell 3 rfl
  have ql := hR.bx.lt
  by_cases h1 : r.pl < a
  · have h1i : (r.pl : Int) < a := by omega
    clear hn h1
    go_enter Tryz.func52, Tryz.ntmps52
    go_wp2_with fail
    go_ret
    exact ⟨rfl, rfl⟩
  · have h1i : ¬ (r.pl : Int) < a := by omega
    have h2i : (b : Int) < r.pl := by omega
    clear hn h1
    go_enter Tryz.func52, Tryz.ntmps52
    go_wp2_with fail
    go_ret
    exact ⟨rfl, rfl⟩
end Go.Proofs.YticpeombillmeaaGreatDoor
