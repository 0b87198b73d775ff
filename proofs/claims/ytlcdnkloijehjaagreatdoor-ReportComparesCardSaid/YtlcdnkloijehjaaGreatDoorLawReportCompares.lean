/-
  The statement about ReportCompares: for every input the law returns true, and each argument reads afterwards as it read before; the package variables are as the program's text lays them (the card ties them).
-/
import Derived.Test.YtlcdnkloijehjaaGreatDoorCards
import Derived.Test.YtlcdnkloijehjaaGreatDoorTie
import Derived.ProofKit
import Derived.OpenShut
import Derived.ShutString
import Derived.ChangeOld
import Derived.Below
import Derived.Deep.DeepHandedRow
import Derived.Lib.LaidTab
import Derived.Lay
import Derived.Test.YtlcdnkloijehjaaGreatDoorRepTyW
import Derived.Test.YtlcdnkloijehjaaGreatDoorRtE
namespace Go.Proofs.YtlcdnkloijehjaaGreatDoor.reportCompares
open Go.ChangeShapes Go.WideShapes Go.ChangeAt Go.RowKit
open Go.ChangeMaps (open_string shut_string)
set_option linter.unusedVariables false

theorem own : ownKnob Tryz.prog.godebug = none := by kernel_rfl
theorem laidOut : laidOutB Tryz.prog = true := by kernel_rfl
theorem gTab : Tryz.prog.globalNamed "dataflow/lex.keywords" = some 1 := by kernel_rfl
theorem gTabType : (Tryz.prog.globals[1]?).map (·.type) = some 145 := by kernel_rfl
theorem cellsT : Tryz.prog.cellsOf 145 = 17 := by kernel_rfl
theorem cellsE : Tryz.prog.cellsOf 9 = 1 := by kernel_rfl
def kwData {H : Type} : List (DataW H) := kwL.map fun s => .lit (.string s.data.toList)
theorem kwData_eq : (Rows.laid_dataflow_lex_keywords : DataW Unit) = .agg kwData := rfl
theorem strs_of {H : Type} {enc : TypeId × Value → H} {w : World} {base : Nat} {sp : Nat → Bool} {held : Bool} {fuel : Nat} {cs : List Value} {p : List MemPlace}
    (h : DataW.trod enc Tryz.prog w base sp held fuel 145 cs = some (.agg kwData, p)) : ∀ i (hi : i < kwL.length), cs[i]? = some (Value.string kwL[i]) := by
  cases fuel with
  | zero => simp [DataW.trod] at h
  | succ fuel =>
    simp only [DataW.trod, Tryz.underlying145, cellsE, cellsT, Nat.mul_one] at h
    split at h
    · obtain ⟨xs, hm, hx⟩ := Option.map_eq_some_iff.1 h
      intro i hi
      have hi' : i < 17 := hi
      obtain ⟨b, hb, hf⟩ := Lib.mapM_at hm i i (by simp [hi'])
      obtain ⟨s, hc, hb2, _⟩ := DataW.trod_string Tryz.underlying9 hf
      have h1 := congrArg Prod.fst hx
      simp only [DataW.agg.injEq] at h1
      have h2 := congrArg (·[i]?) h1
      simp only [List.getElem?_map, hb, Option.map_some, kwData, List.getElem?_eq_getElem hi, Option.some.injEq] at h2
      rw [hb2] at h2
      simp only [DataW.lit.injEq, Lit.string.injEq] at h2
      have h3 : s = kwL[i] := toL_inj h2
      have h4 : cs[i]? = some (Value.string s) := by
        have := congrArg (·[0]?) hc
        simpa [List.getElem?_take, List.getElem?_drop] using this
      exact h4.trans (congrArg (fun x => some (Value.string x)) h3)
    · cases h
theorem iface_of {H : Type} {enc : TypeId × Value → H} {w : World} {base : Nat} {sp : Nat → Bool} {held : Bool} {fuel : Nat} {cs : List Value} {nm : String} {d : DataW H} {p : List MemPlace}
    (h : DataW.trod enc Tryz.prog w base sp held fuel 62 cs = some (.iface nm d, p)) : ∃ u v, cs[0]? = some (.iface u v) := by
  cases fuel with
  | zero => simp [DataW.trod] at h
  | succ fuel =>
    simp only [DataW.trod, Tryz.underlying62] at h
    split at h
    all_goals first
      | exact ⟨_, _, rfl⟩
      | (cases h; done)
      | (simp at h; done)
      | (exfalso; simp_all; done)
      | (exfalso; revert h; split <;> intro h <;> first | (cases h; done) | (simp at h; done))
theorem gRange : Tryz.prog.globalNamed "strconv.ErrRange" = some 4 := by kernel_rfl
theorem gRangeT : (Tryz.prog.globals[4]?).map (·.type) = some 62 := by kernel_rfl
theorem gSyn : Tryz.prog.globalNamed "strconv.ErrSyntax" = some 3 := by kernel_rfl
theorem gSynT : (Tryz.prog.globals[3]?).map (·.type) = some 62 := by kernel_rfl
theorem gPow : Tryz.prog.globalNamed "internal/strconv.uint64pow10" = some 2 := by kernel_rfl
theorem gPowT : (Tryz.prog.globals[2]?).map (·.type) = some 148 := by kernel_rfl
theorem pow_eq : (Rows.laid_internal_strconv_uint64pow10 : DataW Unit) = Lib.tabData .u64 Lib.pow10Tab := rfl
theorem glob {W : World} (h : laidMetH Tryz.prog Rows.reportComparesRow.laid W) (hsh : W.ShapedOpen Tryz.prog) : Glp W := by
  have h' : laidMet Tryz.prog Rows.reportComparesRow.laid W := h
  obtain ⟨ps, ⟨g1, t1, cs1, fuel1, p1, q1, _, _, _, _, ⟨g2, t2, cs2, fuel2, p2, q2, _, _, _, _, ⟨g3, t3, cs3, fuel3, p3, q3, hg3, ht3, hvar3, hd3, ⟨g4, t4, cs4, fuel4, p4, q4, _, _, _, _, ⟨g5, t5, cs5, fuel5, p5, q5, hg5, ht5, hvar5, hd5, ⟨g6, t6, cs6, fuel6, p6, q6, hg6, ht6, hvar6, hd6, ⟨g', t', cs, fuel, p, q, hg', ht', hvar, hd, _, _⟩, _⟩, _⟩, _⟩, _⟩, _⟩, _⟩, _⟩ := h'
  obtain rfl := Option.some.inj (gTab.symm.trans hg')
  obtain rfl := Option.some.inj (gTabType.symm.trans ht')
  obtain rfl := Option.some.inj (gPow.symm.trans hg3)
  obtain rfl := Option.some.inj (gPowT.symm.trans ht3)
  obtain rfl := Option.some.inj (gRange.symm.trans hg5)
  obtain rfl := Option.some.inj (gRangeT.symm.trans ht5)
  obtain rfl := Option.some.inj (gSyn.symm.trans hg6)
  obtain rfl := Option.some.inj (gSynT.symm.trans ht6)
  have hkw : KwX W := by
    intro i hi
    rw [kwData_eq] at hd
    have hs := strs_of hd i hi
    rw [World.var?_cell gTab hvar i]
    simpa using hs
  have htab : Lib.TabIs Tryz.prog W "internal/strconv.uint64pow10" .u64 Lib.pow10Tab := by
    rw [pow_eq] at hd3
    have := Lib.cells_of_tab Tryz.underlying148 Tryz.underlying125 (by kernel_rfl) (by kernel_rfl) hd3
    unfold Lib.TabIs
    rw [hvar3, ← this]
  have hlt : 2 < W.heap.size := cell_lt (htab.cell gPow 0 (by decide))
  obtain ⟨u5, v5, e5⟩ := iface_of hd5
  obtain ⟨u6, v6, e6⟩ := iface_of hd6
  have hr : W.cell? ⟨4, 0, none⟩ = some (.iface u5 v5) := by
    rw [World.var?_cell gRange hvar5 0]
    simpa using e5
  have hs : W.cell? ⟨3, 0, none⟩ = some (.iface u6 v6) := by
    rw [World.var?_cell gSyn hvar6 0]
    simpa using e6
  exact ⟨⟨hkw, htab, hlt, ⟨u6, v6, hs⟩, ⟨u5, v5, hr⟩⟩, Go.Proofs.cell_of_shapedOpen_int (zero := #[.int .i64 0]) (t := 3) hsh (of_decide_eq_true (by kernel_rfl)) (by kernel_rfl) rfl (by kernel_rfl) (by kernel_rfl) Tryz.underlying3⟩
theorem okOf {x : Rpt} (h : Rpt.OkW x) : OkRpt x ∧ SmR x := by
  obtain ⟨⟨h1, h2, h3⟩, ⟨h4, h5, h6⟩, h7, h8, h9⟩ := h
  have b1 : Tryz.prog.bytesOf 46 = 88 := by kernel_rfl
  have b2 : Tryz.prog.bytesOf 48 = 96 := by kernel_rfl
  have b3 : Tryz.prog.bytesOf 3 = 8 := by kernel_rfl
  rw [b1] at h1
  rw [b2] at h4
  rw [b3] at h7
  have hp : ∀ {p : Plc}, p.OkW → OkPlc p := fun hq => ⟨by have := hq.1; unfold reachBytes at this; omega, by have := hq.2.1; unfold reachBytes at this; omega⟩
  have hf : ∀ {f : Fnd}, f.OkW → OkFnd f := fun hq => by
    obtain ⟨a1, a2, a3, a4, a5, a6⟩ := hq
    exact ⟨hp a2, by unfold reachBytes at a3; omega, by unfold maxLen at a5; omega, fun y hy => hp (a6 y hy)⟩
  unfold reachBytes at h1 h4 h7
  unfold maxLen at h2 h5 h8
  exact ⟨⟨by omega, by omega, by omega, fun y hy => hf (h3 y hy), fun y hy => hf (h6 y hy).1⟩, ⟨by omega, by omega, by omega⟩⟩

theorem keyOf {x : Rpt} (h : Rpt.OkW x) : Hid (∀ y ∈ x.opn, OkKey y) := fun y hy => by
  obtain ⟨a1, ⟨a2, a3, a4⟩, a5, _⟩ := h.1.2.2 y hy
  unfold reachBytes at a2 a3 a5
  exact ⟨a1, a4, by omega, by omega, by omega⟩
set_option maxRecDepth 100000 in
theorem contract (H : Type) (enc : TypeId × Value → H) (W : World) (base : Nat) (args : Array Value) (ds gs : List (DataW H)) (before : List MemPlace)
    (hval : ∀ (j : Nat) t v, Tryz.f6.params[j]? = some t → args[j]? = some v → Value.okWide Tryz.prog W .any base t v)
    (hW : DataW.Whole enc Tryz.prog Tryz.f6.params.toList Rows.reportComparesSpec.vars false W args.toList ds gs before) (hwt : (DataW.weightsEach Tryz.prog (Tryz.f6.params.toList ++ (OpenSpec.ofChange Rows.reportComparesSpec).bare.plain.varTypes Tryz.prog) (ds ++ gs)).all (· ≤ reachBytes) = true) (hL : laidMetH Tryz.prog Rows.reportComparesRow.laid W) (hsh : W.ShapedOpen Tryz.prog) :
    Calls Tryz.prog 6 args W fun e W' => ∃ v, e = .returned v ∧ Rows.reportComparesSpec.post enc Tryz.prog Tryz.f6 false true false false W args v W' := by
  have hW' := hW
  obtain ⟨p, q, hA0, hV, rfl, hfz, hnd⟩ := hW
  have hA : DataW.TrodAll enc Tryz.prog W 0 (fun _ => true) true Tryz.f6.params.toList args.toList ds p := hA0
  rw [Tryz.params6] at hA hval hwt
  obtain ⟨v0, vs0, d0, ds0, p0, q0, hargs, rfl, rfl, h0, r0⟩ := trodAll_cons hA
  obtain ⟨v1, vs1, d1, ds1, p1, q1, rfl, rfl, rfl, h1, r1⟩ := trodAll_cons r0
  obtain ⟨rfl, rfl, rfl⟩ := trodAll_nil r1
  obtain rfl : args = #[v0, v1] := by cases args; simp_all
  obtain ⟨rfl, rfl⟩ := trodVars_none hV
  have l0 : Light Tryz.prog 26 d0 := fun z hz => by
    have h1 := List.all_eq_true.1 hwt z (weightsEach_mem (i := 0) rfl rfl z hz)
    simpa using h1
  have l1 : Light Tryz.prog 26 d1 := fun z hz => by
    have h1 := List.all_eq_true.1 hwt z (weightsEach_mem (i := 1) rfl rfl z hz)
    simpa using h1
  obtain ⟨cs0, rfl, hsz0⟩ := okWide_struct Tryz.underlying26 (hval 0 26 v0 rfl rfl)
  have k0 := h0
  have lt0 := trod_block h0
  obtain ⟨x0, hr0, ho0⟩ := OpensW.arg (opensWRpt) h0 l0
  obtain ⟨A0, c0, A1, c1, A2, c2, he, hc0, hs0, hc1, hs1, hc2, hs2⟩ := hr0
  have he2 : cs0.toList = [.slice A0 x0.opn.length c0, .slice A1 x0.hdn.length c1, .slice A2 x0.uns.length c2] := he
  obtain rfl : cs0 = #[.slice A0 x0.opn.length c0, .slice A1 x0.hdn.length c1, .slice A2 x0.uns.length c2] := Array.toList_inj.1 (by simpa using he2)
  obtain ⟨cs1, rfl, hsz1⟩ := okWide_struct Tryz.underlying26 (hval 1 26 v1 rfl rfl)
  have k1 := h1
  have lt1 := trod_block h1
  obtain ⟨x1, hr1, ho1⟩ := OpensW.arg (opensWRpt) h1 l1
  obtain ⟨B0, d0', B1, d1', B2, d2', he', hcB0, hsB0, hcB1, hsB1, hcB2, hsB2⟩ := hr1
  have he3 : cs1.toList = [.slice B0 x1.opn.length d0', .slice B1 x1.hdn.length d1', .slice B2 x1.uns.length d2'] := he'
  obtain rfl : cs1 = #[.slice B0 x1.opn.length d0', .slice B1 x1.hdn.length d1', .slice B2 x1.uns.length d2'] := Array.toList_inj.1 (by simpa using he3)
  have hg := glob hL hsh
  obtain ⟨hokr, hsmr⟩ := okOf ho0
  obtain ⟨hokr', hsmr'⟩ := okOf ho1
  clear hA0
  refine (walk_ReportCompares x0 x1 A0 A1 A2 B0 B1 B2 c0 c1 c2 d0' d1' d2' W hg (keyOf ho0) (keyOf ho1) hsmr hsmr' hs0 hs1 hsB0 hsB1).mono fun e W' ⟨he, bel⟩ => ?_
  subst he
  exact ⟨_, rfl, _, _, _, [], _, [], hW', trodAll_mk1 (shut_bool Tryz.underlying4 _), (trodAll_cons_mk (Below.trod laidOut (by kernel_rfl) (of_decide_eq_true (by kernel_rfl)) k0 bel lt0) (trodAll_cons_mk (Below.trod laidOut (by kernel_rfl) (of_decide_eq_true (by kernel_rfl)) k1 bel lt1) trodAll_mk0)), rfl, bel.frame _, fun h => by cases h⟩

/-- A world for the witness: the settled one, the listed variables laid. -/
noncomputable def laidWorld (os : Os) : World := World.laidAll Tryz.prog os Rows.reportComparesRow.laid
theorem laid_met (os : Os) : laidMet Tryz.prog Rows.reportComparesRow.laid ((laidWorld os).forCall (fun _ _ => 0) ⟨#[], #[.agg #[.slice none 0 0, .slice none 0 0, .slice none 0 0], .agg #[.slice none 0 0, .slice none 0 0, .slice none 0 0]], []⟩).memory :=
  laidMet_laidAll _ (by kernel_rfl) (by kernel_rfl)
theorem reads (os : Os) {H : Type} (enc : TypeId × Value → H) : ∃ places, DataW.whole enc Tryz.prog ((laidWorld os).forCall (fun _ _ => 0) ⟨#[], #[.agg #[.slice none 0 0, .slice none 0 0, .slice none 0 0], .agg #[.slice none 0 0, .slice none 0 0, .slice none 0 0]], []⟩).memory Tryz.f6.params.toList Rows.reportComparesSpec.vars false (#[.agg #[.slice none 0 0, .slice none 0 0, .slice none 0 0], .agg #[.slice none 0 0, .slice none 0 0, .slice none 0 0]] : Array Value).toList 8 = some ([.agg [.nil, .nil, .nil], .agg [.nil, .nil, .nil]], [], places) :=
  ⟨[], by kernel_rfl⟩

set_option maxRecDepth 100000 in
theorem lifted (os : Os) (started : os.Started) (H : Type) (enc : TypeId × Value → H) (F : Stop.Interp) :
    ReturnsInHanded {} Tryz.checked os 6 .any ((OpenSpec.ofChange Rows.reportComparesSpec).preRow enc Tryz.prog Tryz.f6 Rows.reportComparesRow.domain false Rows.reportComparesRow.laid) (((OpenSpec.ofChange Rows.reportComparesSpec).at F).post enc Tryz.prog Tryz.f6 false true false false) := by
  obtain ⟨places, hx⟩ := reads os enc
  refine returnsInHanded_of_row (C := Tryz.checked) (s := OpenSpec.ofChange Rows.reportComparesSpec) own started (by kernel_rfl) Tryz.func6
    (witness_row_at (enc := enc) (C := Tryz.checked) false (laidWorld os) #[.agg #[.slice none 0 0, .slice none 0 0, .slice none 0 0], .agg #[.slice none 0 0, .slice none 0 0, .slice none 0 0]] (World.laidAll_os _ _ _) (by kernel_rfl) (by kernel_rfl) (by kernel_rfl)
      (OpenSpec.preRow_of_cond 8 hx (by kernel_rfl) (fun k hk => by cases hk) (by kernel_rfl) (laid_met os))) ?_
  intro W base args ds gs before hval hW _ _ hwt hL hsh _
  exact contract H enc W base args ds gs before hval hW hwt hL hsh

theorem said : Rows.ReportComparesSaid :=
  OpenClaim.holds_of_cond 6 Tryz.f6 rfl rfl rfl rfl rfl rfl rfl ⟨rfl, rfl, rfl, rfl, rfl⟩ rfl rfl rfl rfl rfl (by kernel_rfl) Tryz.func6 (by kernel_rfl)
    (of_decide_eq_true (by kernel_rfl)) (by unfold Func.isWrapper; first | (rw [if_pos (by decide +kernel)]; kernel_rfl) | (rw [if_neg (by decide +kernel)]; exact ⟨rfl, rfl⟩))
    (fun os started H enc _ F => by rw [OpenClaim.pre_eq_preRow]; exact lifted os started H enc F)

theorem plain (f : FuncId) (fn : Func) (hf : Tryz.pinned.checked.prog.funcNamed "dataflow/dataflowlaw47.ReportCompares" = some f) (hfn : Tryz.pinned.checked.prog.funcs[f]? = some fn) :
    true = Tryz.pinned.checked.prog.looks [] ∧ ∀ (j : Nat) t, fn.params[j]? = some t → Tryz.pinned.checked.prog.wantsStandIn t = false := by
  obtain rfl : f = 6 := Option.some.inj ((show Tryz.prog.funcNamed "dataflow/dataflowlaw47.ReportCompares" = some 6 by kernel_rfl).symm.trans hf) |>.symm
  obtain rfl : fn = Tryz.f6 := (Option.some.inj (Tryz.func6.symm.trans hfn)).symm
  refine ⟨by kernel_rfl, fun j t ht => ?_⟩
  rw [Tryz.params6] at ht
  have hm := Array.mem_of_getElem? ht
  have hm' : t = 26 := by simpa using hm
  subst hm'
  exact (show Tryz.prog.wantsStandIn 26 = false by kernel_rfl)

theorem card : Rows.ReportComparesCardSaid :=
  Claim7.holds_tied_plain_at .later [] _ _ _ _ said (fun _ h => by cases h) (by kernel_rfl) (fun _ h => by cases h) reportCompares_row_tie rfl ⟨rfl, rfl⟩ (by kernel_rfl) rfl plain (by kernel_rfl)
#print axioms card
end Go.Proofs.YtlcdnkloijehjaaGreatDoor.reportCompares
