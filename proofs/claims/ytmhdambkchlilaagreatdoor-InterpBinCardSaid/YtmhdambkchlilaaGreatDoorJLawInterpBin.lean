/- The statement about InterpBin: for every input the law returns true, and each argument reads afterwards as it read before; the package variables are as the program's text lays them (the card ties them). -/
import Derived.Test.YtmhdambkchlilaaGreatDoorCards
import Derived.Test.YtmhdambkchlilaaGreatDoorTie
import Derived.ProofKit
import Derived.OpenShut
import Derived.ShutString
import Derived.ChangeOld
import Derived.Below
import Derived.Deep.DeepHandedRow
import Derived.Lib.LaidTab
import Derived.Lay
import Derived.Test.YtmhdambkchlilaaGreatDoorJIz
namespace Go.Proofs.YtmhdambkchlilaaGreatDoor.interpBin
open Go.ChangeShapes Go.WideShapes Go.ChangeAt Go.RowKit
open Go.ChangeMaps (open_string shut_string)
set_option linter.unusedVariables false
theorem own : ownKnob Tryz.prog.godebug = none := by kernel_rfl
theorem laidOut : laidOutB Tryz.prog = true := by kernel_rfl
theorem cellsE : Tryz.prog.cellsOf 9 = 1 := by kernel_rfl
theorem cells17 : Tryz.prog.cellsOf 272 = 17 := by kernel_rfl
theorem strs17 {L : List ByteArray} (hL : L.length = 17) {H : Type} {enc : TypeId × Value → H} {w : World} {base : Nat} {sp : Nat → Bool} {held : Bool} {fuel : Nat} {cs : List Value} {p : List MemPlace}
  (h : DataW.trod enc Tryz.prog w base sp held fuel 272 cs = some (.agg (L.map fun s => .lit (.string s.data.toList)),p)) : ∀ i (hi : i < L.length),cs[i]? = some (Value.string L[i]) := by
 cases fuel with
 | zero => simp [DataW.trod] at h
 | succ fuel =>
  simp only [DataW.trod,Tryz.underlying272,cellsE,cells17,Nat.mul_one] at h
  split at h
  ·obtain ⟨xs,hm,hx⟩ := Option.map_eq_some_iff.1 h
   intro i hi
   have hi' : i < 17 := by omega
   obtain ⟨b,hb,hf⟩ := Lib.mapM_at hm i i (by simp [hi'])
   obtain ⟨s,hc,hb2,_⟩ := DataW.trod_string Tryz.underlying9 hf
   have h1 := congrArg Prod.fst hx
   simp only [DataW.agg.injEq] at h1
   have h2 := congrArg (·[i]?) h1
   simp only [List.getElem?_map,hb,Option.map_some,List.getElem?_eq_getElem hi,Option.some.injEq] at h2
   rw [hb2] at h2
   simp only [DataW.lit.injEq,Lit.string.injEq] at h2
   have h3 : s = L[i] := toL_inj h2
   have h4 : cs[i]? = some (Value.string s) := by
    have := congrArg (·[0]?) hc
    simpa [List.getElem?_take,List.getElem?_drop] using this
   exact h4.trans (congrArg (fun x => some (Value.string x)) h3)
  ·cases h
theorem g_dataflow_lex_keywords : Tryz.prog.globalNamed "dataflow/lex.keywords" = some 2 := by kernel_rfl
theorem gt_dataflow_lex_keywords : (Tryz.prog.globals[2]?).map (·.type) = some 272 := by kernel_rfl
theorem ge_dataflow_lex_keywords : (Rows.laid_dataflow_lex_keywords : DataW Unit) = .agg (kwL.map fun s => .lit (.string s.data.toList)) := rfl
theorem g_dataflow_ir_forms : Tryz.prog.globalNamed "dataflow/ir.forms" = some 0 := by kernel_rfl
theorem gt_dataflow_ir_forms : (Tryz.prog.globals[0]?).map (·.type) = some 272 := by kernel_rfl
theorem ge_dataflow_ir_forms : (Rows.laid_dataflow_ir_forms : DataW Unit) = .agg (formsB.map fun s => .lit (.string s.data.toList)) := rfl
theorem glob {W : World} (h : laidMetH Tryz.prog Rows.interpBinRow.laid W) (hsh : W.ShapedOpen Tryz.prog) : GlobI W := by
 have h' : laidMet Tryz.prog Rows.interpBinRow.laid W := h
 obtain ⟨ps,⟨g0,t0,cs0,fuel0,p0,q0,hg0,ht0,hvar0,hd0,⟨g1,t1,cs1,fuel1,p1,q1,hg1,ht1,hvar1,hd1,_,_⟩,_⟩,_⟩ := h'
 obtain rfl := Option.some.inj (g_dataflow_lex_keywords.symm.trans hg0)
 obtain rfl := Option.some.inj (gt_dataflow_lex_keywords.symm.trans ht0)
 have v_dataflow_lex_keywords : ∀ i (h : i < kwL.length),W.cell? ⟨2,i,none⟩ = some (.string kwL[i]) := by
  intro i hi
  rw [ge_dataflow_lex_keywords] at hd0
  have hs := strs17 (L := kwL) rfl hd0 i hi
  rw [World.var?_cell g_dataflow_lex_keywords hvar0 i]
  simpa using hs
 obtain rfl := Option.some.inj (g_dataflow_ir_forms.symm.trans hg1)
 obtain rfl := Option.some.inj (gt_dataflow_ir_forms.symm.trans ht1)
 have v_dataflow_ir_forms : ∀ i (h : i < formsB.length),W.cell? ⟨0,i,none⟩ = some (.string formsB[i]) := by
  intro i hi
  rw [ge_dataflow_ir_forms] at hd1
  have hs := strs17 (L := formsB) rfl hd1 i hi
  rw [World.var?_cell g_dataflow_ir_forms hvar1 i]
  simpa using hs
 exact ⟨v_dataflow_lex_keywords,v_dataflow_ir_forms⟩
set_option maxRecDepth 100000 in
theorem contract (H : Type) (enc : TypeId × Value → H) (W : World) (base : Nat) (args : Array Value) (ds gs : List (DataW H)) (before : List MemPlace)
  (hval : ∀ (j : Nat) t v,Tryz.f3.params[j]? = some t → args[j]? = some v → Value.okWide Tryz.prog W .any base t v)
  (hW : DataW.Whole enc Tryz.prog Tryz.f3.params.toList Rows.interpBinSpec.vars false W args.toList ds gs before) (hwt : (DataW.weightsEach Tryz.prog (Tryz.f3.params.toList ++ (OpenSpec.ofChange Rows.interpBinSpec).bare.plain.varTypes Tryz.prog) (ds ++ gs)).all (· ≤ reachBytes) = true) (hL : laidMetH Tryz.prog Rows.interpBinRow.laid W) (hsh : W.ShapedOpen Tryz.prog) :
  Calls Tryz.prog 3 args W fun e W' => ∃ v,e = .returned v ∧ Rows.interpBinSpec.post enc Tryz.prog Tryz.f3 false true false false W args v W' := by
 have hW' := hW
 obtain ⟨p,q,hA0,hV,rfl,hfz,hnd⟩ := hW
 have hA : DataW.TrodAll enc Tryz.prog W 0 (fun _ => true) true Tryz.f3.params.toList args.toList ds p := hA0
 rw [Tryz.params3] at hA hval hwt
 obtain ⟨v0,vs0,d0,ds0,p0,q0,hargs,rfl,rfl,h0,r0⟩ := trodAll_cons hA
 obtain ⟨v1,vs1,d1,ds1,p1,q1,rfl,rfl,rfl,h1,r1⟩ := trodAll_cons r0
 obtain ⟨v2,vs2,d2,ds2,p2,q2,rfl,rfl,rfl,h2,r2⟩ := trodAll_cons r1
 obtain ⟨rfl,rfl,rfl⟩ := trodAll_nil r2
 obtain rfl : args = #[v0,v1,v2] := by cases args; simp_all
 obtain ⟨rfl,rfl⟩ := trodVars_none hV
 obtain ⟨a0,rfl,rfl,rfl,w0⟩ := open_int Tryz.underlying3 (hval 0 3 v0 rfl rfl) h0
 obtain ⟨a1,rfl,rfl,rfl,w1⟩ := open_int Tryz.underlying2 (hval 1 2 v1 rfl rfl) h1
 obtain ⟨a2,rfl,rfl,rfl,w2⟩ := open_int Tryz.underlying2 (hval 2 2 v2 rfl rfl) h2
 have hg := glob hL hsh
 clear hA0
 refine (walk_InterpBin a0 a1 a2 W (Lib.hid hg.fx) (Lib.hid hg.kw)).mono fun e W' ⟨he,bel⟩ => ?_
 subst he
 exact ⟨_,rfl,_,_,_,[],_,[],hW',trodAll_mk1 (shut_bool Tryz.underlying4 _),(trodAll_cons_mk (shut_int Tryz.underlying3 w0) (trodAll_cons_mk (shut_int Tryz.underlying2 w1) (trodAll_mk1 (shut_int Tryz.underlying2 w2)))),rfl,bel.frame _,fun h => by cases h⟩
noncomputable def laidWorld (os : Os) : World := World.laidAll Tryz.prog os Rows.interpBinRow.laid
theorem laid_met (os : Os) : laidMet Tryz.prog Rows.interpBinRow.laid ((laidWorld os).forCall (fun _ _ => 0) ⟨#[],#[.int .i64 0,.int .i64 0,.int .i64 0],[]⟩).memory :=
 laidMet_laidAll _ (by kernel_rfl) (by kernel_rfl)
theorem reads (os : Os) {H : Type} (enc : TypeId × Value → H) : ∃ places,DataW.whole enc Tryz.prog ((laidWorld os).forCall (fun _ _ => 0) ⟨#[],#[.int .i64 0,.int .i64 0,.int .i64 0],[]⟩).memory Tryz.f3.params.toList Rows.interpBinSpec.vars false (#[.int .i64 0,.int .i64 0,.int .i64 0] : Array Value).toList 8 = some ([.lit (.int .i64 0),.lit (.int .i64 0),.lit (.int .i64 0)],[],places) :=
 ⟨[],by kernel_rfl⟩
set_option maxRecDepth 100000 in
theorem lifted (os : Os) (started : os.Started) (H : Type) (enc : TypeId × Value → H) (F : Stop.Interp) :
  ReturnsInHanded {} Tryz.checked os 3 .any ((OpenSpec.ofChange Rows.interpBinSpec).preRow enc Tryz.prog Tryz.f3 Rows.interpBinRow.domain false Rows.interpBinRow.laid) (((OpenSpec.ofChange Rows.interpBinSpec).at F).post enc Tryz.prog Tryz.f3 false true false false) := by
 obtain ⟨places,hx⟩ := reads os enc
 refine returnsInHanded_of_row (C := Tryz.checked) (s := OpenSpec.ofChange Rows.interpBinSpec) own started (by kernel_rfl) Tryz.func3
  (witness_row_at (enc := enc) (C := Tryz.checked) false (laidWorld os) #[.int .i64 0,.int .i64 0,.int .i64 0] (World.laidAll_os _ _ _) (by kernel_rfl) (by kernel_rfl) (by kernel_rfl)
   (OpenSpec.preRow_of_cond 8 hx (by kernel_rfl) (fun k hk => by cases hk) (by kernel_rfl) (laid_met os))) ?_
 intro W base args ds gs before hval hW _ _ hwt hL hsh _
 exact contract H enc W base args ds gs before hval hW hwt hL hsh
theorem cf0 : (Rows.interpBinRow.wf (OpenSpec.ofChange (OpenSpec.ofChange Rows.interpBinSpec).bare)) = true := by kernel_rfl
theorem cf1 : (laidOutB Tryz.prog) = true := by kernel_rfl
theorem cf2 : (mapsRowed Tryz.prog) = true := by kernel_rfl
theorem cf3 : (Tryz.f3.params.all (Tryz.prog.readableRec ·)) = true := by kernel_rfl
theorem cf4 : (namedTie Tryz.prog Rows.interpBinRow.named (OpenSpec.ofChange Rows.interpBinSpec).bare.vars) = true := by kernel_rfl
theorem cf5 : ((Rows.interpBinRow.stops == [])) = true := by kernel_rfl
theorem cf6 : ((Tryz.prog.stops == [])) = true := by kernel_rfl
theorem cf7 : ((Rows.interpBinRow.knobs == [])) = true := by kernel_rfl
theorem cf8 : ((Tryz.prog.stopKnobs == [])) = true := by kernel_rfl
theorem cf9 : ((Rows.interpBinRow.inPlace == Tryz.prog.inPlace 3)) = true := by kernel_rfl
theorem cf10 : ((Rows.interpBinRow.unfollowed == Tryz.prog.unfollowed 3)) = true := by kernel_rfl
theorem cf11 : ((Rows.interpBinRow.recurses == Tryz.prog.recurses 3)) = true := by kernel_rfl
theorem cf12 : ((Rows.interpBinRow.named == Tryz.prog.varsNamed 3)) = true := by kernel_rfl
theorem cf13 : ((Rows.interpBinRow.maps == (Tryz.f3.params.toList ++ (OpenSpec.ofChange Rows.interpBinSpec).bare.plain.varTypes Tryz.prog).any (Tryz.prog.mapsRec ·))) = true := by kernel_rfl
theorem cf14 : ((Rows.interpBinRow.ifaces == (Tryz.f3.params.toList ++ (OpenSpec.ofChange Rows.interpBinSpec).bare.plain.varTypes Tryz.prog).any (Tryz.prog.ifacesRec ·))) = true := by kernel_rfl
theorem cf15 : ((Rows.interpBinRow.mapsOut == Tryz.prog.mapsAmong Tryz.f3.resultTypes.toList)) = true := by kernel_rfl
theorem cf16 : ((Rows.interpBinRow.loops == (Tryz.f3.params.toList ++ (OpenSpec.ofChange Rows.interpBinSpec).bare.plain.varTypes Tryz.prog).any (Tryz.prog.loopsFrom ·))) = true := by kernel_rfl
theorem cf17 : ((Rows.interpBinRow.wideKeys == (Tryz.f3.params.toList ++ (OpenSpec.ofChange Rows.interpBinSpec).bare.plain.varTypes Tryz.prog ++ Tryz.f3.resultTypes.toList).any (Tryz.prog.wideKeysFrom ·))) = true := by kernel_rfl
theorem cf18 : ((OpenSpec.ofChange Rows.interpBinSpec).bare.vars.all (Tryz.prog.varReadable ·)) = true := by kernel_rfl
theorem cf19 : (Tryz.f3.resultTypes.all (fun t => Tryz.prog.readableRec t && decide (t < Tryz.prog.types.size))) = true := by kernel_rfl
theorem cf20 : ((Rows.interpBinRow.ifacesOut == Tryz.f3.resultTypes.toList.any (Tryz.prog.ifacesRec ·))) = true := by kernel_rfl
theorem cf21 : ((Rows.interpBinRow.loopsOut == Tryz.f3.resultTypes.toList.any (Tryz.prog.loopsFrom ·))) = true := by kernel_rfl
theorem cf22 : ((Rows.interpBinRow.plainKeys == Tryz.prog.plainKeys)) = true := by kernel_rfl
theorem cf23 : (Rows.interpBinRow.shortTexts.isNone) = true := by kernel_rfl
theorem cf24 : (Tryz.prog.stopsHeard) = true := by kernel_rfl
theorem cf25 : (Tryz.prog.mayEnter) = true := by kernel_rfl
theorem cf26 : ((Rows.interpBinRow.lifted == Tryz.prog.liftsFinal)) = true := by kernel_rfl
theorem cf27 : ((Tryz.prog.make == some Rows.interpBinRow.make)) = true := by kernel_rfl
theorem cf29 : ((Rows.interpBinRow.pinned == Rows.interpBinRow.pinnedBy)) = true := by kernel_rfl
theorem cf30 : ((Rows.interpBinRow.veiled == (Tryz.f3.params.toList ++ (OpenSpec.ofChange Rows.interpBinSpec).bare.plain.varTypes Tryz.prog ++ Tryz.f3.resultTypes.toList).any (Tryz.prog.veiledRec ·))) = true := by kernel_rfl
theorem cf31 : (Rows.interpBinRow.veiledFits Tryz.prog Tryz.f3.params.toList (Tryz.f3.params.toList ++ (OpenSpec.ofChange Rows.interpBinSpec).bare.plain.varTypes Tryz.prog ++ Tryz.f3.resultTypes.toList)) = true := by kernel_rfl
theorem closed : joinedFacts Tryz.prog 3 Tryz.f3 (OpenSpec.ofChange Rows.interpBinSpec).bare Rows.interpBinRow = true := by
 unfold joinedFacts
 simp only [Bool.and_eq_true]
 exact ⟨⟨⟨⟨⟨⟨⟨⟨⟨⟨⟨⟨⟨⟨⟨⟨⟨⟨⟨⟨⟨⟨⟨⟨⟨⟨⟨⟨⟨⟨⟨cf0,cf1⟩,cf2⟩,cf3⟩,cf4⟩,cf5⟩,cf6⟩,cf7⟩,cf8⟩,cf9⟩,cf10⟩,cf11⟩,cf12⟩,cf13⟩,cf14⟩,cf15⟩,cf16⟩,cf17⟩,cf18⟩,cf19⟩,cf20⟩,cf21⟩,cf22⟩,cf23⟩,cf24⟩,cf25⟩,cf26⟩,cf27⟩,(by kernel_rfl)⟩,cf29⟩,cf30⟩,cf31⟩
theorem said : Rows.InterpBinSaid :=
 OpenClaim.holds_of_cond 3 Tryz.f3 rfl rfl rfl rfl rfl rfl rfl ⟨rfl,rfl,rfl,rfl,rfl⟩ rfl rfl rfl rfl rfl (by kernel_rfl) Tryz.func3 closed
  (of_decide_eq_true (by kernel_rfl)) (by unfold Func.isWrapper; first | (rw [if_pos (by decide +kernel)]; kernel_rfl) | (rw [if_neg (by decide +kernel)]; exact ⟨rfl,rfl⟩))
  (fun os started H enc _ F => by rw [OpenClaim.pre_eq_preRow]; exact lifted os started H enc F)
theorem plain (f : FuncId) (fn : Func) (hf : Tryz.pinned.checked.prog.funcNamed "dataflow/dataflowlaw15.InterpBin" = some f) (hfn : Tryz.pinned.checked.prog.funcs[f]? = some fn) :
  false = Tryz.pinned.checked.prog.looks [] ∧ ∀ (j : Nat) t,fn.params[j]? = some t → Tryz.pinned.checked.prog.wantsStandIn t = false := by
 obtain rfl : f = 3 := Option.some.inj ((show Tryz.prog.funcNamed "dataflow/dataflowlaw15.InterpBin" = some 3 by kernel_rfl).symm.trans hf) |>.symm
 obtain rfl : fn = Tryz.f3 := (Option.some.inj (Tryz.func3.symm.trans hfn)).symm
 refine ⟨by kernel_rfl,fun j t ht => ?_⟩
 rw [Tryz.params3] at ht
 have hm := Array.mem_of_getElem? ht
 have hm' : t = 3 ∨ t = 2 := by simpa using hm
 rcases hm' with rfl | rfl
 ·exact (show Tryz.prog.wantsStandIn 3 = false by kernel_rfl)
 ·exact (show Tryz.prog.wantsStandIn 2 = false by kernel_rfl)
theorem card : Rows.InterpBinCardSaid :=
 Claim7.holds_tied_plain_at .later [] _ _ _ _ said (fun _ h => by cases h) (by kernel_rfl) (fun _ h => by cases h) interpBin_row_tie rfl ⟨rfl,rfl⟩ (by kernel_rfl) rfl plain (by kernel_rfl)
#print axioms card
end Go.Proofs.YtmhdambkchlilaaGreatDoor.interpBin
