/-
  The statement about ReportParses: for every input the law returns true, and each argument reads afterwards as it read before; the package variables are as the program's text lays them (the card ties them).
-/
import Derived.Test.YtlcdnkloijehjaaGreatDoorCards
import Derived.Test.YtlcdnkloijehjaaGreatDoorTie
import Derived.ProofKit
import Derived.OpenShut
import Derived.ShutString
import Derived.ChangeOld
import Derived.Below
import Derived.Deep.DeepHandedRow
import Derived.Lib.LaidTab
import Derived.Lay
import Derived.Test.YtlcdnkloijehjaaGreatDoorRepTyW
import Derived.Test.YtlcdnkloijehjaaGreatDoorRuE
namespace Go.Proofs.YtlcdnkloijehjaaGreatDoor.reportParses
open Go.ChangeShapes Go.WideShapes Go.ChangeAt Go.RowKit
open Go.ChangeMaps (open_string shut_string)
set_option linter.unusedVariables false

theorem own : ownKnob Tryz.prog.godebug = none := by kernel_rfl
theorem laidOut : laidOutB Tryz.prog = true := by kernel_rfl
theorem gTab : Tryz.prog.globalNamed "dataflow/lex.keywords" = some 1 := by kernel_rfl
theorem gTabType : (Tryz.prog.globals[1]?).map (·.type) = some 145 := by kernel_rfl
theorem cellsT : Tryz.prog.cellsOf 145 = 17 := by kernel_rfl
theorem cellsE : Tryz.prog.cellsOf 9 = 1 := by kernel_rfl
def kwData {H : Type} : List (DataW H) := kwL.map fun s => .lit (.string s.data.toList)
theorem kwData_eq : (Rows.laid_dataflow_lex_keywords : DataW Unit) = .agg kwData := rfl
theorem strs_of {H : Type} {enc : TypeId × Value → H} {w : World} {base : Nat} {sp : Nat → Bool} {held : Bool} {fuel : Nat} {cs : List Value} {p : List MemPlace}
    (h : DataW.trod enc Tryz.prog w base sp held fuel 145 cs = some (.agg kwData, p)) : ∀ i (hi : i < kwL.length), cs[i]? = some (Value.string kwL[i]) := by
  cases fuel with
  | zero => simp [DataW.trod] at h
  | succ fuel =>
    simp only [DataW.trod, Tryz.underlying145, cellsE, cellsT, Nat.mul_one] at h
    split at h
    · obtain ⟨xs, hm, hx⟩ := Option.map_eq_some_iff.1 h
      intro i hi
      have hi' : i < 17 := hi
      obtain ⟨b, hb, hf⟩ := Lib.mapM_at hm i i (by simp [hi'])
      obtain ⟨s, hc, hb2, _⟩ := DataW.trod_string Tryz.underlying9 hf
      have h1 := congrArg Prod.fst hx
      simp only [DataW.agg.injEq] at h1
      have h2 := congrArg (·[i]?) h1
      simp only [List.getElem?_map, hb, Option.map_some, kwData, List.getElem?_eq_getElem hi, Option.some.injEq] at h2
      rw [hb2] at h2
      simp only [DataW.lit.injEq, Lit.string.injEq] at h2
      have h3 : s = kwL[i] := toL_inj h2
      have h4 : cs[i]? = some (Value.string s) := by
        have := congrArg (·[0]?) hc
        simpa [List.getElem?_take, List.getElem?_drop] using this
      exact h4.trans (congrArg (fun x => some (Value.string x)) h3)
    · cases h
theorem iface_of {H : Type} {enc : TypeId × Value → H} {w : World} {base : Nat} {sp : Nat → Bool} {held : Bool} {fuel : Nat} {cs : List Value} {nm : String} {d : DataW H} {p : List MemPlace}
    (h : DataW.trod enc Tryz.prog w base sp held fuel 62 cs = some (.iface nm d, p)) : ∃ u v, cs[0]? = some (.iface u v) := by
  cases fuel with
  | zero => simp [DataW.trod] at h
  | succ fuel =>
    simp only [DataW.trod, Tryz.underlying62] at h
    split at h
    all_goals first
      | exact ⟨_, _, rfl⟩
      | (cases h; done)
      | (simp at h; done)
      | (exfalso; simp_all; done)
      | (exfalso; revert h; split <;> intro h <;> first | (cases h; done) | (simp at h; done))
theorem gRange : Tryz.prog.globalNamed "strconv.ErrRange" = some 4 := by kernel_rfl
theorem gRangeT : (Tryz.prog.globals[4]?).map (·.type) = some 62 := by kernel_rfl
theorem gSyn : Tryz.prog.globalNamed "strconv.ErrSyntax" = some 3 := by kernel_rfl
theorem gSynT : (Tryz.prog.globals[3]?).map (·.type) = some 62 := by kernel_rfl
theorem gPow : Tryz.prog.globalNamed "internal/strconv.uint64pow10" = some 2 := by kernel_rfl
theorem gPowT : (Tryz.prog.globals[2]?).map (·.type) = some 148 := by kernel_rfl
theorem pow_eq : (Rows.laid_internal_strconv_uint64pow10 : DataW Unit) = Lib.tabData .u64 Lib.pow10Tab := rfl
theorem glob {W : World} (h : laidMetH Tryz.prog Rows.reportParsesRow.laid W) (hsh : W.ShapedOpen Tryz.prog) : Glp W := by
  have h' : laidMet Tryz.prog Rows.reportParsesRow.laid W := h
  obtain ⟨ps, ⟨g1, t1, cs1, fuel1, p1, q1, _, _, _, _, ⟨g2, t2, cs2, fuel2, p2, q2, _, _, _, _, ⟨g3, t3, cs3, fuel3, p3, q3, hg3, ht3, hvar3, hd3, ⟨g4, t4, cs4, fuel4, p4, q4, _, _, _, _, ⟨g5, t5, cs5, fuel5, p5, q5, hg5, ht5, hvar5, hd5, ⟨g6, t6, cs6, fuel6, p6, q6, hg6, ht6, hvar6, hd6, ⟨g', t', cs, fuel, p, q, hg', ht', hvar, hd, _, _⟩, _⟩, _⟩, _⟩, _⟩, _⟩, _⟩, _⟩ := h'
  obtain rfl := Option.some.inj (gTab.symm.trans hg')
  obtain rfl := Option.some.inj (gTabType.symm.trans ht')
  obtain rfl := Option.some.inj (gPow.symm.trans hg3)
  obtain rfl := Option.some.inj (gPowT.symm.trans ht3)
  obtain rfl := Option.some.inj (gRange.symm.trans hg5)
  obtain rfl := Option.some.inj (gRangeT.symm.trans ht5)
  obtain rfl := Option.some.inj (gSyn.symm.trans hg6)
  obtain rfl := Option.some.inj (gSynT.symm.trans ht6)
  have hkw : KwX W := by
    intro i hi
    rw [kwData_eq] at hd
    have hs := strs_of hd i hi
    rw [World.var?_cell gTab hvar i]
    simpa using hs
  have htab : Lib.TabIs Tryz.prog W "internal/strconv.uint64pow10" .u64 Lib.pow10Tab := by
    rw [pow_eq] at hd3
    have := Lib.cells_of_tab Tryz.underlying148 Tryz.underlying125 (by kernel_rfl) (by kernel_rfl) hd3
    unfold Lib.TabIs
    rw [hvar3, ← this]
  have hlt : 2 < W.heap.size := cell_lt (htab.cell gPow 0 (by decide))
  obtain ⟨u5, v5, e5⟩ := iface_of hd5
  obtain ⟨u6, v6, e6⟩ := iface_of hd6
  have hr : W.cell? ⟨4, 0, none⟩ = some (.iface u5 v5) := by
    rw [World.var?_cell gRange hvar5 0]
    simpa using e5
  have hs : W.cell? ⟨3, 0, none⟩ = some (.iface u6 v6) := by
    rw [World.var?_cell gSyn hvar6 0]
    simpa using e6
  exact ⟨⟨hkw, htab, hlt, ⟨u6, v6, hs⟩, ⟨u5, v5, hr⟩⟩, Go.Proofs.cell_of_shapedOpen_int (zero := #[.int .i64 0]) (t := 3) hsh (of_decide_eq_true (by kernel_rfl)) (by kernel_rfl) rfl (by kernel_rfl) (by kernel_rfl) Tryz.underlying3⟩
theorem okOf {x : Rpt} (h : Rpt.OkW x) : OkRpt x ∧ SmR x := by
  obtain ⟨⟨h1, h2, h3⟩, ⟨h4, h5, h6⟩, h7, h8, h9⟩ := h
  have b1 : Tryz.prog.bytesOf 46 = 88 := by kernel_rfl
  have b2 : Tryz.prog.bytesOf 48 = 96 := by kernel_rfl
  have b3 : Tryz.prog.bytesOf 3 = 8 := by kernel_rfl
  rw [b1] at h1
  rw [b2] at h4
  rw [b3] at h7
  have hp : ∀ {p : Plc}, p.OkW → OkPlc p := fun hq => ⟨by have := hq.1; unfold reachBytes at this; omega, by have := hq.2.1; unfold reachBytes at this; omega⟩
  have hf : ∀ {f : Fnd}, f.OkW → OkFnd f := fun hq => by
    obtain ⟨a1, a2, a3, a4, a5, a6⟩ := hq
    exact ⟨hp a2, by unfold reachBytes at a3; omega, by unfold maxLen at a5; omega, fun y hy => hp (a6 y hy)⟩
  unfold reachBytes at h1 h4 h7
  unfold maxLen at h2 h5 h8
  exact ⟨⟨by omega, by omega, by omega, fun y hy => hf (h3 y hy), fun y hy => hf (h6 y hy).1⟩, ⟨by omega, by omega, by omega⟩⟩

set_option maxRecDepth 100000 in
theorem contract (H : Type) (enc : TypeId × Value → H) (W : World) (base : Nat) (args : Array Value) (ds gs : List (DataW H)) (before : List MemPlace)
    (hval : ∀ (j : Nat) t v, Tryz.f5.params[j]? = some t → args[j]? = some v → Value.okWide Tryz.prog W .any base t v)
    (hW : DataW.Whole enc Tryz.prog Tryz.f5.params.toList Rows.reportParsesSpec.vars false W args.toList ds gs before) (hwt : (DataW.weightsEach Tryz.prog (Tryz.f5.params.toList ++ (OpenSpec.ofChange Rows.reportParsesSpec).bare.plain.varTypes Tryz.prog) (ds ++ gs)).all (· ≤ reachBytes) = true) (hL : laidMetH Tryz.prog Rows.reportParsesRow.laid W) (hsh : W.ShapedOpen Tryz.prog) :
    Calls Tryz.prog 5 args W fun e W' => ∃ v, e = .returned v ∧ Rows.reportParsesSpec.post enc Tryz.prog Tryz.f5 false true false false W args v W' := by
  have hW' := hW
  obtain ⟨p, q, hA0, hV, rfl, hfz, hnd⟩ := hW
  have hA : DataW.TrodAll enc Tryz.prog W 0 (fun _ => true) true Tryz.f5.params.toList args.toList ds p := hA0
  rw [Tryz.params5] at hA hval hwt
  obtain ⟨v0, vs0, d0, ds0, p0, q0, hargs, rfl, rfl, h0, r0⟩ := trodAll_cons hA
  obtain ⟨rfl, rfl, rfl⟩ := trodAll_nil r0
  obtain rfl : args = #[v0] := by cases args; simp_all
  obtain ⟨rfl, rfl⟩ := trodVars_none hV
  obtain ⟨a1, rfl, rfl, rfl, w1⟩ := open_string Tryz.underlying9 (hval 0 9 v0 rfl rfl) h0
  have hg := glob hL hsh
  clear hA0
  refine (walk_ReportParses a1 W hg (by simpa [maxLen] using w1)).mono fun e W' ⟨he, bel⟩ => ?_
  subst he
  exact ⟨_, rfl, _, _, _, [], _, [], hW', trodAll_mk1 (shut_bool Tryz.underlying4 _), (trodAll_mk1 (shut_string Tryz.underlying9 w1)), rfl, bel.frame _, fun h => by cases h⟩

/-- A world for the witness: the settled one, the listed variables laid. -/
noncomputable def laidWorld (os : Os) : World := World.laidAll Tryz.prog os Rows.reportParsesRow.laid
theorem laid_met (os : Os) : laidMet Tryz.prog Rows.reportParsesRow.laid ((laidWorld os).forCall (fun _ _ => 0) ⟨#[], #[.string ByteArray.empty], []⟩).memory :=
  laidMet_laidAll _ (by kernel_rfl) (by kernel_rfl)
theorem reads (os : Os) {H : Type} (enc : TypeId × Value → H) : ∃ places, DataW.whole enc Tryz.prog ((laidWorld os).forCall (fun _ _ => 0) ⟨#[], #[.string ByteArray.empty], []⟩).memory Tryz.f5.params.toList Rows.reportParsesSpec.vars false (#[.string ByteArray.empty] : Array Value).toList 8 = some ([.lit (.string [])], [], places) :=
  ⟨[], by kernel_rfl⟩

set_option maxRecDepth 100000 in
theorem lifted (os : Os) (started : os.Started) (H : Type) (enc : TypeId × Value → H) (F : Stop.Interp) :
    ReturnsInHanded {} Tryz.checked os 5 .any ((OpenSpec.ofChange Rows.reportParsesSpec).preRow enc Tryz.prog Tryz.f5 Rows.reportParsesRow.domain false Rows.reportParsesRow.laid) (((OpenSpec.ofChange Rows.reportParsesSpec).at F).post enc Tryz.prog Tryz.f5 false true false false) := by
  obtain ⟨places, hx⟩ := reads os enc
  refine returnsInHanded_of_row (C := Tryz.checked) (s := OpenSpec.ofChange Rows.reportParsesSpec) own started (by kernel_rfl) Tryz.func5
    (witness_row_at (enc := enc) (C := Tryz.checked) false (laidWorld os) #[.string ByteArray.empty] (World.laidAll_os _ _ _) (by kernel_rfl) (by kernel_rfl) (by kernel_rfl)
      (OpenSpec.preRow_of_cond 8 hx (by kernel_rfl) (fun k hk => by cases hk) (by kernel_rfl) (laid_met os))) ?_
  intro W base args ds gs before hval hW _ _ hwt hL hsh _
  exact contract H enc W base args ds gs before hval hW hwt hL hsh

theorem said : Rows.ReportParsesSaid :=
  OpenClaim.holds_of_cond 5 Tryz.f5 rfl rfl rfl rfl rfl rfl rfl ⟨rfl, rfl, rfl, rfl, rfl⟩ rfl rfl rfl rfl rfl (by kernel_rfl) Tryz.func5 (by kernel_rfl)
    (of_decide_eq_true (by kernel_rfl)) (by unfold Func.isWrapper; first | (rw [if_pos (by decide +kernel)]; kernel_rfl) | (rw [if_neg (by decide +kernel)]; exact ⟨rfl, rfl⟩))
    (fun os started H enc _ F => by rw [OpenClaim.pre_eq_preRow]; exact lifted os started H enc F)

theorem plain (f : FuncId) (fn : Func) (hf : Tryz.pinned.checked.prog.funcNamed "dataflow/dataflowlaw47.ReportParses" = some f) (hfn : Tryz.pinned.checked.prog.funcs[f]? = some fn) :
    true = Tryz.pinned.checked.prog.looks [] ∧ ∀ (j : Nat) t, fn.params[j]? = some t → Tryz.pinned.checked.prog.wantsStandIn t = false := by
  obtain rfl : f = 5 := Option.some.inj ((show Tryz.prog.funcNamed "dataflow/dataflowlaw47.ReportParses" = some 5 by kernel_rfl).symm.trans hf) |>.symm
  obtain rfl : fn = Tryz.f5 := (Option.some.inj (Tryz.func5.symm.trans hfn)).symm
  refine ⟨by kernel_rfl, fun j t ht => ?_⟩
  rw [Tryz.params5] at ht
  have hm := Array.mem_of_getElem? ht
  have hm' : t = 9 := by simpa using hm
  subst hm'
  exact (show Tryz.prog.wantsStandIn 9 = false by kernel_rfl)

theorem card : Rows.ReportParsesCardSaid :=
  Claim7.holds_tied_plain_at .later [] _ _ _ _ said (fun _ h => by cases h) (by kernel_rfl) (fun _ h => by cases h) reportParses_row_tie rfl ⟨rfl, rfl⟩ (by kernel_rfl) rfl plain (by kernel_rfl)
#print axioms card
end Go.Proofs.YtlcdnkloijehjaaGreatDoor.reportParses
