/-
  The statement about IrFlows: for every input the law returns true, and each argument reads afterwards as it read before; the package variables are as the program's text lays them (the card ties them).
-/
import Derived.Test.YticpeombillmeaaGreatDoorCards
import Derived.Test.YticpeombillmeaaGreatDoorTie
import Derived.ProofKit
import Derived.OpenShut
import Derived.ShutString
import Derived.ChangeOld
import Derived.Below
import Derived.Deep.DeepHandedRow
import Derived.Lib.LaidTab
import Derived.Lay
import Derived.Test.YticpeombillmeaaGreatDoorJGt
import Derived.Test.YticpeombillmeaaGreatDoorJLwC
namespace Go.Proofs.YticpeombillmeaaGreatDoor.irFlows
open Go.ChangeShapes Go.WideShapes Go.ChangeAt Go.RowKit
open Go.ChangeMaps (open_string shut_string)
set_option linter.unusedVariables false

theorem own : ownKnob Tryz.prog.godebug = none := by kernel_rfl
theorem laidOut : laidOutB Tryz.prog = true := by kernel_rfl
theorem cellsE : Tryz.prog.cellsOf 9 = 1 := by kernel_rfl
theorem cells5 : Tryz.prog.cellsOf 97 = 5 := by kernel_rfl
theorem strs5 {L : List ByteArray} (hL : L.length = 5) {H : Type} {enc : TypeId × Value → H} {w : World} {base : Nat} {sp : Nat → Bool} {held : Bool} {fuel : Nat} {cs : List Value} {p : List MemPlace}
    (h : DataW.trod enc Tryz.prog w base sp held fuel 97 cs = some (.agg (L.map fun s => .lit (.string s.data.toList)), p)) : ∀ i (hi : i < L.length), cs[i]? = some (Value.string L[i]) := by
  cases fuel with
  | zero => simp [DataW.trod] at h
  | succ fuel =>
    simp only [DataW.trod, Tryz.underlying97, cellsE, cells5, Nat.mul_one] at h
    split at h
    · obtain ⟨xs, hm, hx⟩ := Option.map_eq_some_iff.1 h
      intro i hi
      have hi' : i < 5 := by omega
      obtain ⟨b, hb, hf⟩ := Lib.mapM_at hm i i (by simp [hi'])
      obtain ⟨s, hc, hb2, _⟩ := DataW.trod_string Tryz.underlying9 hf
      have h1 := congrArg Prod.fst hx
      simp only [DataW.agg.injEq] at h1
      have h2 := congrArg (·[i]?) h1
      simp only [List.getElem?_map, hb, Option.map_some, List.getElem?_eq_getElem hi, Option.some.injEq] at h2
      rw [hb2] at h2
      simp only [DataW.lit.injEq, Lit.string.injEq] at h2
      have h3 : s = L[i] := toL_inj h2
      have h4 : cs[i]? = some (Value.string s) := by
        have := congrArg (·[0]?) hc
        simpa [List.getElem?_take, List.getElem?_drop] using this
      exact h4.trans (congrArg (fun x => some (Value.string x)) h3)
    · cases h
theorem cells17 : Tryz.prog.cellsOf 95 = 17 := by kernel_rfl
theorem strs17 {L : List ByteArray} (hL : L.length = 17) {H : Type} {enc : TypeId × Value → H} {w : World} {base : Nat} {sp : Nat → Bool} {held : Bool} {fuel : Nat} {cs : List Value} {p : List MemPlace}
    (h : DataW.trod enc Tryz.prog w base sp held fuel 95 cs = some (.agg (L.map fun s => .lit (.string s.data.toList)), p)) : ∀ i (hi : i < L.length), cs[i]? = some (Value.string L[i]) := by
  cases fuel with
  | zero => simp [DataW.trod] at h
  | succ fuel =>
    simp only [DataW.trod, Tryz.underlying95, cellsE, cells17, Nat.mul_one] at h
    split at h
    · obtain ⟨xs, hm, hx⟩ := Option.map_eq_some_iff.1 h
      intro i hi
      have hi' : i < 17 := by omega
      obtain ⟨b, hb, hf⟩ := Lib.mapM_at hm i i (by simp [hi'])
      obtain ⟨s, hc, hb2, _⟩ := DataW.trod_string Tryz.underlying9 hf
      have h1 := congrArg Prod.fst hx
      simp only [DataW.agg.injEq] at h1
      have h2 := congrArg (·[i]?) h1
      simp only [List.getElem?_map, hb, Option.map_some, List.getElem?_eq_getElem hi, Option.some.injEq] at h2
      rw [hb2] at h2
      simp only [DataW.lit.injEq, Lit.string.injEq] at h2
      have h3 : s = L[i] := toL_inj h2
      have h4 : cs[i]? = some (Value.string s) := by
        have := congrArg (·[0]?) hc
        simpa [List.getElem?_take, List.getElem?_drop] using this
      exact h4.trans (congrArg (fun x => some (Value.string x)) h3)
    · cases h
theorem iface_of {H : Type} {enc : TypeId × Value → H} {w : World} {base : Nat} {sp : Nat → Bool} {held : Bool} {fuel : Nat} {cs : List Value} {nm : String} {d : DataW H} {p : List MemPlace}
    (h : DataW.trod enc Tryz.prog w base sp held fuel 56 cs = some (.iface nm d, p)) : ∃ u v, cs[0]? = some (.iface u v) := by
  cases fuel with
  | zero => simp [DataW.trod] at h
  | succ fuel =>
    simp only [DataW.trod, Tryz.underlying56] at h
    split at h
    all_goals first
      | exact ⟨_, _, rfl⟩
      | (cases h; done)
      | (simp at h; done)
      | (exfalso; simp_all; done)
      | (exfalso; revert h; split <;> intro h <;> first | (cases h; done) | (simp at h; done))
theorem g_internal_strconv_uint64pow10 : Tryz.prog.globalNamed "internal/strconv.uint64pow10" = some 4 := by kernel_rfl
theorem gt_internal_strconv_uint64pow10 : (Tryz.prog.globals[4]?).map (·.type) = some 198 := by kernel_rfl
theorem ge_internal_strconv_uint64pow10 : (Rows.laid_internal_strconv_uint64pow10 : DataW Unit) = Lib.tabData .u64 Lib.pow10Tab := rfl
theorem g_strconv_ErrRange : Tryz.prog.globalNamed "strconv.ErrRange" = some 11 := by kernel_rfl
theorem gt_strconv_ErrRange : (Tryz.prog.globals[11]?).map (·.type) = some 56 := by kernel_rfl
theorem g_strconv_ErrSyntax : Tryz.prog.globalNamed "strconv.ErrSyntax" = some 10 := by kernel_rfl
theorem gt_strconv_ErrSyntax : (Tryz.prog.globals[10]?).map (·.type) = some 56 := by kernel_rfl
theorem g_dataflow_lex_keywords : Tryz.prog.globalNamed "dataflow/lex.keywords" = some 5 := by kernel_rfl
theorem gt_dataflow_lex_keywords : (Tryz.prog.globals[5]?).map (·.type) = some 95 := by kernel_rfl
theorem ge_dataflow_lex_keywords : (Rows.laid_dataflow_lex_keywords : DataW Unit) = .agg (kwL.map fun s => .lit (.string s.data.toList)) := rfl
theorem g_dataflow_ir_names : Tryz.prog.globalNamed "dataflow/ir.names" = some 0 := by kernel_rfl
theorem gt_dataflow_ir_names : (Tryz.prog.globals[0]?).map (·.type) = some 95 := by kernel_rfl
theorem ge_dataflow_ir_names : (Rows.laid_dataflow_ir_names : DataW Unit) = .agg (namesB.map fun s => .lit (.string s.data.toList)) := rfl
theorem g_dataflow_ir_forms : Tryz.prog.globalNamed "dataflow/ir.forms" = some 1 := by kernel_rfl
theorem gt_dataflow_ir_forms : (Tryz.prog.globals[1]?).map (·.type) = some 95 := by kernel_rfl
theorem ge_dataflow_ir_forms : (Rows.laid_dataflow_ir_forms : DataW Unit) = .agg (formsB.map fun s => .lit (.string s.data.toList)) := rfl
theorem g_dataflow_ir_operators : Tryz.prog.globalNamed "dataflow/ir.operators" = some 2 := by kernel_rfl
theorem gt_dataflow_ir_operators : (Tryz.prog.globals[2]?).map (·.type) = some 97 := by kernel_rfl
theorem ge_dataflow_ir_operators : (Rows.laid_dataflow_ir_operators : DataW Unit) = .agg (opersB.map fun s => .lit (.string s.data.toList)) := rfl
theorem glob {W : World} (h : laidMetH Tryz.prog Rows.irFlowsRow.laid W) (hsh : W.ShapedOpen Tryz.prog) : Gl3 W := by
  have h' : laidMet Tryz.prog Rows.irFlowsRow.laid W := h
  obtain ⟨ps, ⟨g0, t0, cs0, fuel0, p0, q0, _, _, _, _, ⟨g1, t1, cs1, fuel1, p1, q1, _, _, _, _, ⟨g2, t2, cs2, fuel2, p2, q2, hg2, ht2, hvar2, hd2, ⟨g3, t3, cs3, fuel3, p3, q3, _, _, _, _, ⟨g4, t4, cs4, fuel4, p4, q4, hg4, ht4, hvar4, hd4, ⟨g5, t5, cs5, fuel5, p5, q5, hg5, ht5, hvar5, hd5, ⟨g6, t6, cs6, fuel6, p6, q6, hg6, ht6, hvar6, hd6, ⟨g7, t7, cs7, fuel7, p7, q7, hg7, ht7, hvar7, hd7, ⟨g8, t8, cs8, fuel8, p8, q8, hg8, ht8, hvar8, hd8, ⟨g9, t9, cs9, fuel9, p9, q9, hg9, ht9, hvar9, hd9, ⟨g10, t10, cs10, fuel10, p10, q10, _, _, _, _, _, _⟩, _⟩, _⟩, _⟩, _⟩, _⟩, _⟩, _⟩, _⟩, _⟩, _⟩, _⟩ := h'
  obtain rfl := Option.some.inj (g_internal_strconv_uint64pow10.symm.trans hg2)
  obtain rfl := Option.some.inj (gt_internal_strconv_uint64pow10.symm.trans ht2)
  have v_internal_strconv_uint64pow10 : Lib.TabIs Tryz.prog W "internal/strconv.uint64pow10" .u64 Lib.pow10Tab := by
    rw [ge_internal_strconv_uint64pow10] at hd2
    have := Lib.cells_of_tab Tryz.underlying198 Tryz.underlying168 (by kernel_rfl) (by kernel_rfl) hd2
    unfold Lib.TabIs
    rw [hvar2, ← this]
  obtain rfl := Option.some.inj (g_strconv_ErrRange.symm.trans hg4)
  obtain rfl := Option.some.inj (gt_strconv_ErrRange.symm.trans ht4)
  obtain ⟨u4, w4, e4⟩ := iface_of hd4
  have v_strconv_ErrRange : W.cell? ⟨11, 0, none⟩ = some (.iface u4 w4) := by
    rw [World.var?_cell g_strconv_ErrRange hvar4 0]
    simpa using e4
  obtain rfl := Option.some.inj (g_strconv_ErrSyntax.symm.trans hg5)
  obtain rfl := Option.some.inj (gt_strconv_ErrSyntax.symm.trans ht5)
  obtain ⟨u5, w5, e5⟩ := iface_of hd5
  have v_strconv_ErrSyntax : W.cell? ⟨10, 0, none⟩ = some (.iface u5 w5) := by
    rw [World.var?_cell g_strconv_ErrSyntax hvar5 0]
    simpa using e5
  obtain rfl := Option.some.inj (g_dataflow_lex_keywords.symm.trans hg6)
  obtain rfl := Option.some.inj (gt_dataflow_lex_keywords.symm.trans ht6)
  have v_dataflow_lex_keywords : ∀ i (h : i < kwL.length), W.cell? ⟨5, i, none⟩ = some (.string kwL[i]) := by
    intro i hi
    rw [ge_dataflow_lex_keywords] at hd6
    have hs := strs17 (L := kwL) rfl hd6 i hi
    rw [World.var?_cell g_dataflow_lex_keywords hvar6 i]
    simpa using hs
  obtain rfl := Option.some.inj (g_dataflow_ir_names.symm.trans hg7)
  obtain rfl := Option.some.inj (gt_dataflow_ir_names.symm.trans ht7)
  have v_dataflow_ir_names : ∀ i (h : i < namesB.length), W.cell? ⟨0, i, none⟩ = some (.string namesB[i]) := by
    intro i hi
    rw [ge_dataflow_ir_names] at hd7
    have hs := strs17 (L := namesB) rfl hd7 i hi
    rw [World.var?_cell g_dataflow_ir_names hvar7 i]
    simpa using hs
  obtain rfl := Option.some.inj (g_dataflow_ir_forms.symm.trans hg8)
  obtain rfl := Option.some.inj (gt_dataflow_ir_forms.symm.trans ht8)
  have v_dataflow_ir_forms : ∀ i (h : i < formsB.length), W.cell? ⟨1, i, none⟩ = some (.string formsB[i]) := by
    intro i hi
    rw [ge_dataflow_ir_forms] at hd8
    have hs := strs17 (L := formsB) rfl hd8 i hi
    rw [World.var?_cell g_dataflow_ir_forms hvar8 i]
    simpa using hs
  obtain rfl := Option.some.inj (g_dataflow_ir_operators.symm.trans hg9)
  obtain rfl := Option.some.inj (gt_dataflow_ir_operators.symm.trans ht9)
  have v_dataflow_ir_operators : ∀ i (h : i < opersB.length), W.cell? ⟨2, i, none⟩ = some (.string opersB[i]) := by
    intro i hi
    rw [ge_dataflow_ir_operators] at hd9
    have hs := strs5 (L := opersB) rfl hd9 i hi
    rw [World.var?_cell g_dataflow_ir_operators hvar9 i]
    simpa using hs
  have hlt : 4 < W.heap.size := cell_lt (v_internal_strconv_uint64pow10.cell g_internal_strconv_uint64pow10 0 (by decide))
  exact ⟨v_dataflow_lex_keywords, v_internal_strconv_uint64pow10, hlt, ⟨_, _, v_strconv_ErrSyntax⟩, ⟨_, _, v_strconv_ErrRange⟩, Go.Proofs.cell_of_shapedOpen_int (zero := #[.int .i64 0]) (t := 3) hsh (of_decide_eq_true (by kernel_rfl)) (by kernel_rfl) rfl (by kernel_rfl) (by kernel_rfl) Tryz.underlying3, v_dataflow_ir_forms, v_dataflow_ir_names, v_dataflow_ir_operators⟩
theorem unH_okW {x : Unt} (ho : x.OkW) {w : World} {A0 A1 : Option Addr} {c0 : Nat} (hc : x.classes.length ≤ c0) (hs : Sl Lay.cls w A0 x.classes) (hf : Sl Lay.fun w A1 x.funcs) (hfx : FormX w) (hkw : KwX w) : UnH w x A0 A1 c0 ∧ ∀ f ∈ x.funcs, ∀ y ∈ f.code, InsI y := by
  obtain ⟨⟨h1, h2, h3⟩, ⟨h4, h5, h6⟩, h7⟩ := ho
  have b1 : Tryz.prog.bytesOf 64 = 80 := by kernel_rfl
  have b2 : Tryz.prog.bytesOf 66 = 32 := by kernel_rfl
  have b3 : Tryz.prog.bytesOf 68 = 64 := by kernel_rfl
  have b4 : Tryz.prog.bytesOf 9 = 16 := by kernel_rfl
  have b5 : Tryz.prog.bytesOf 43 = 112 := by kernel_rfl
  have b6 : Tryz.prog.bytesOf 47 = 112 := by kernel_rfl
  have b7 : Tryz.prog.bytesOf 3 = 8 := by kernel_rfl
  rw [b1] at h1
  rw [b5] at h4
  unfold reachBytes at h1 h4
  refine ⟨⟨by omega, hc, hs, fun y hy => ?_, fun y hy => ?_, hf, by omega, fun f hf2 => ?_, hfx, hkw⟩, fun f hf2 y hy => ?_⟩
  · obtain ⟨k1, k2, ⟨_, _, k3⟩, _, _, k4⟩ := h3 y hy
    exact ⟨⟨k1, k2⟩, fun f hf => k3 f hf, fun m hm => ⟨(k4 m hm).1, (k4 m hm).2.2.2, (k4 m hm).2.2.1.2.2⟩⟩
  · obtain ⟨k1, k2, ⟨k3, _, _⟩, k4, _, k5⟩ := h3 y hy
    rw [b2] at k3
    rw [b3] at k4
    unfold reachBytes at k3 k4
    refine ⟨by omega, by omega, fun m hm => ?_⟩
    obtain ⟨_, _, ⟨m1, _, _⟩, _⟩ := k5 m hm
    rw [b4] at m1
    unfold reachBytes at m1
    omega
  · obtain ⟨k1, k2, _, _, ⟨k3, _, k4⟩, k5, k6, _, k7⟩ := h6 f hf2
    rw [b2] at k3
    rw [b6] at k6
    unfold reachBytes at k3 k6
    refine ⟨by omega, fun v hv => k4 v hv, by omega, fun z hz => ?_, k5⟩
    obtain ⟨_, _, _, _, _, z1, _, ⟨z2, _, _⟩, _⟩ := k7 z hz
    rw [b7] at z2
    unfold reachBytes at z2
    exact ⟨z1, by omega⟩
  · obtain ⟨_, _, _, _, _, _, _, _, k7⟩ := h6 f hf2
    obtain ⟨_, i1, i2, i3, i4, _, _, ⟨_, _, i5⟩, i6, i7⟩ := k7 y hy
    exact ⟨i1, i2, i3, i4, i6, i7, i5⟩

set_option maxRecDepth 100000 in
theorem contract (H : Type) (enc : TypeId × Value → H) (W : World) (base : Nat) (args : Array Value) (ds gs : List (DataW H)) (before : List MemPlace)
    (hval : ∀ (j : Nat) t v, Tryz.f5.params[j]? = some t → args[j]? = some v → Value.okWide Tryz.prog W .any base t v)
    (hW : DataW.Whole enc Tryz.prog Tryz.f5.params.toList Rows.irFlowsSpec.vars false W args.toList ds gs before) (hwt : (DataW.weightsEach Tryz.prog (Tryz.f5.params.toList ++ (OpenSpec.ofChange Rows.irFlowsSpec).bare.plain.varTypes Tryz.prog) (ds ++ gs)).all (· ≤ reachBytes) = true) (hL : laidMetH Tryz.prog Rows.irFlowsRow.laid W) (hsh : W.ShapedOpen Tryz.prog) :
    Calls Tryz.prog 5 args W fun e W' => ∃ v, e = .returned v ∧ Rows.irFlowsSpec.post enc Tryz.prog Tryz.f5 false true false false W args v W' := by
  have hW' := hW
  obtain ⟨p, q, hA0, hV, rfl, hfz, hnd⟩ := hW
  have hA : DataW.TrodAll enc Tryz.prog W 0 (fun _ => true) true Tryz.f5.params.toList args.toList ds p := hA0
  rw [Tryz.params5] at hA hval hwt
  obtain ⟨v0, vs0, d0, ds0, p0, q0, hargs, rfl, rfl, h0, r0⟩ := trodAll_cons hA
  obtain ⟨rfl, rfl, rfl⟩ := trodAll_nil r0
  obtain rfl : args = #[v0] := by cases args; simp_all
  obtain ⟨rfl, rfl⟩ := trodVars_none hV
  have l0 : Light Tryz.prog 27 d0 := fun z hz => by
    have h1 := List.all_eq_true.1 hwt z (weightsEach_mem (i := 0) rfl rfl z hz)
    simpa using h1
  obtain ⟨cs0, rfl, hsz0⟩ := okWide_struct Tryz.underlying27 (hval 0 27 v0 rfl rfl)
  have k0 := h0
  have lt0 := trod_block h0
  obtain ⟨x0, hr0, ho0⟩ := OpensW.arg (opensWUnt) h0 l0
  obtain ⟨A0, c0, B0, e0, he0, hc0, hs0, hd0, ht0⟩ := hr0
  have hf0 : cs0.toList = [.slice A0 x0.classes.length c0, .slice B0 x0.funcs.length e0, .int .i64 x0.main] := he0
  obtain rfl : cs0 = #[.slice A0 x0.classes.length c0, .slice B0 x0.funcs.length e0, .int .i64 x0.main] := Array.toList_inj.1 (by simpa using hf0)
  have hg := glob hL hsh
  have hu0 := unH_okW ho0 hc0 hs0 ht0 hg.fx hg.kw
  clear hA0
  refine (walk_IrFlows x0 A0 B0 c0 e0 W hg (Lib.hid hu0.1)).mono fun e W' ⟨he, bel⟩ => ?_
  subst he
  exact ⟨_, rfl, _, _, _, [], _, [], hW', trodAll_mk1 (shut_bool Tryz.underlying4 _), (trodAll_cons_mk (Below.trod laidOut (by kernel_rfl) (of_decide_eq_true (by kernel_rfl)) k0 bel lt0) trodAll_mk0), rfl, bel.frame _, fun h => by cases h⟩

/-- A world for the witness: the settled one, the listed variables laid. -/
noncomputable def laidWorld (os : Os) : World := World.laidAll Tryz.prog os Rows.irFlowsRow.laid
theorem laid_met (os : Os) : laidMet Tryz.prog Rows.irFlowsRow.laid ((laidWorld os).forCall (fun _ _ => 0) ⟨#[], #[.agg #[.slice none 0 0, .slice none 0 0, .int .i64 0]], []⟩).memory :=
  laidMet_laidAll _ (by kernel_rfl) (by kernel_rfl)
theorem reads (os : Os) {H : Type} (enc : TypeId × Value → H) : ∃ places, DataW.whole enc Tryz.prog ((laidWorld os).forCall (fun _ _ => 0) ⟨#[], #[.agg #[.slice none 0 0, .slice none 0 0, .int .i64 0]], []⟩).memory Tryz.f5.params.toList Rows.irFlowsSpec.vars false (#[.agg #[.slice none 0 0, .slice none 0 0, .int .i64 0]] : Array Value).toList 8 = some ([.agg [.agg [.nil], .nil, .lit (.int .i64 0)]], [], places) :=
  ⟨[], by kernel_rfl⟩

set_option maxRecDepth 100000 in
theorem lifted (os : Os) (started : os.Started) (H : Type) (enc : TypeId × Value → H) (F : Stop.Interp) :
    ReturnsInHanded {} Tryz.checked os 5 .any ((OpenSpec.ofChange Rows.irFlowsSpec).preRow enc Tryz.prog Tryz.f5 Rows.irFlowsRow.domain false Rows.irFlowsRow.laid) (((OpenSpec.ofChange Rows.irFlowsSpec).at F).post enc Tryz.prog Tryz.f5 false true false false) := by
  obtain ⟨places, hx⟩ := reads os enc
  refine returnsInHanded_of_row (C := Tryz.checked) (s := OpenSpec.ofChange Rows.irFlowsSpec) own started (by kernel_rfl) Tryz.func5
    (witness_row_at (enc := enc) (C := Tryz.checked) false (laidWorld os) #[.agg #[.slice none 0 0, .slice none 0 0, .int .i64 0]] (World.laidAll_os _ _ _) (by kernel_rfl) (by kernel_rfl) (by kernel_rfl)
      (OpenSpec.preRow_of_cond 8 hx (by kernel_rfl) (fun k hk => by cases hk) (by kernel_rfl) (laid_met os))) ?_
  intro W base args ds gs before hval hW _ _ hwt hL hsh _
  exact contract H enc W base args ds gs before hval hW hwt hL hsh

theorem said : Rows.IrFlowsSaid :=
  OpenClaim.holds_of_cond 5 Tryz.f5 rfl rfl rfl rfl rfl rfl rfl ⟨rfl, rfl, rfl, rfl, rfl⟩ rfl rfl rfl rfl rfl (by kernel_rfl) Tryz.func5 (by kernel_rfl)
    (of_decide_eq_true (by kernel_rfl)) (by unfold Func.isWrapper; first | (rw [if_pos (by decide +kernel)]; kernel_rfl) | (rw [if_neg (by decide +kernel)]; exact ⟨rfl, rfl⟩))
    (fun os started H enc _ F => by rw [OpenClaim.pre_eq_preRow]; exact lifted os started H enc F)

theorem plain (f : FuncId) (fn : Func) (hf : Tryz.pinned.checked.prog.funcNamed "dataflow/dataflowlaw13.IrFlows" = some f) (hfn : Tryz.pinned.checked.prog.funcs[f]? = some fn) :
    true = Tryz.pinned.checked.prog.looks [] ∧ ∀ (j : Nat) t, fn.params[j]? = some t → Tryz.pinned.checked.prog.wantsStandIn t = false := by
  obtain rfl : f = 5 := Option.some.inj ((show Tryz.prog.funcNamed "dataflow/dataflowlaw13.IrFlows" = some 5 by kernel_rfl).symm.trans hf) |>.symm
  obtain rfl : fn = Tryz.f5 := (Option.some.inj (Tryz.func5.symm.trans hfn)).symm
  refine ⟨by kernel_rfl, fun j t ht => ?_⟩
  rw [Tryz.params5] at ht
  have hm := Array.mem_of_getElem? ht
  have hm' : t = 27 := by simpa using hm
  subst hm'
  exact (show Tryz.prog.wantsStandIn 27 = false by kernel_rfl)

theorem card : Rows.IrFlowsCardSaid :=
  Claim7.holds_tied_plain_at .later [] _ _ _ _ said (fun _ h => by cases h) (by kernel_rfl) (fun _ h => by cases h) irFlows_row_tie rfl ⟨rfl, rfl⟩ (by kernel_rfl) rfl plain (by kernel_rfl)
#print axioms card
end Go.Proofs.YticpeombillmeaaGreatDoor.irFlows
