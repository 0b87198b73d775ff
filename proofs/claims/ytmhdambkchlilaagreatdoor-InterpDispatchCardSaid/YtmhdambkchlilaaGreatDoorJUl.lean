/- Chapter 13: typer.call: the error of the types of a call. Chapter 13: typer.field: the error of the types of a load or store. -/
import Derived.Test.YtmhdambkchlilaaGreatDoorJUh
namespace Go.Proofs.YtmhdambkchlilaaGreatDoor
open Go.RowKit
set_option linter.unusedVariables false
set_option maxRecDepth 100000
set_option maxHeartbeats 4000000
def callG (cs : List Cls) (vars : List Fld) (c : Ins) (g : Sg) (i : Nat) : Bool := !fitsB cs (tyOf vars ((c.args[i]?).getD 0)) ((g.params[i]?).getD ByteArray.empty)
def callZ (cs : List Cls) (vars : List Fld) (c : Ins) (g : Sg) : Bool := decide (c.dst = -1) || !g.result.toList.isEmpty && fitsB cs g.result (tyOf vars c.dst)
theorem callE_len {cs : List Cls} {vars : List Fld} {c : Ins} {g : Sg} (h : c.args.length ≠ g.params.length) : callE cs vars c g = 9 := by unfold callE; rw [if_pos h]
theorem callE_hit {cs : List Cls} {vars : List Fld} {c : Ins} {g : Sg} (h : c.args.length = g.params.length) {k : Nat} (hk : k < c.args.length) (hh : callG cs vars c g k = true) : callE cs vars c g = 8 := by
 unfold callE
 rw [if_neg (by omega)]
 exact if_pos (List.any_eq_true.2 ⟨k,by simpa using hk,hh⟩)
theorem callE_pass {cs : List Cls} {vars : List Fld} {c : Ins} {g : Sg} (h : c.args.length = g.params.length) (hh : ∀ k,k < c.args.length → callG cs vars c g k = false) : callE cs vars c g = typed (callZ cs vars c g) := by
 unfold callE callZ
 rw [if_neg (by omega)]
 exact if_neg (fun h => by
  obtain ⟨k,hk,h⟩ := List.any_eq_true.1 h
  have := hh k (by simpa using hk)
  unfold callG at this
  rw [this] at h; cases h)
theorem callG_at {cs : List Cls} {vars : List Fld} {c : Ins} {g : Sg} {k : Nat} (h1 : k < c.args.length) (h2 : k < g.params.length) : callG cs vars c g k = !fitsB cs (tyOf vars c.args[k]) g.params[k] := by
 unfold callG
 rw [List.getElem?_eq_getElem h1,List.getElem?_eq_getElem h2]; rfl
theorem tyOf_ok {vars : List Fld} (h : ∀ v ∈ vars,okStr v.typ) (v : Int) : okStr (tyOf vars v) := by
 unfold tyOf
 cases hv : vars[v.toNat]? with
 | none => show ByteArray.empty.size ≤ _; decide
 | some y => exact h y (List.mem_of_getElem? hv)
theorem tyrCall_any (cs : List Cls) (f : Fun) (x : Ins) (g : Sg) (AH AV AC AI AP : Option Addr) (cH cV cC cI cP : Nat) (w : World) (hl : cs.length ≤ 8796093022208) (hcc : cs.length ≤ cH) (hs : Sl Lay.cls w AH cs) (hok : Hid (NamesOk cs))
  (hv : Sl Lay.fld w AV f.vars) (hvo : Hid (∀ v ∈ f.vars,okStr v.typ)) (ha : Sl Lay.int w AI x.args) (hla : x.args.length ≤ 17592186044416) (hva : Hid (∀ v ∈ x.args,varB f.vars.length v = true))
  (hp : Sl Lay.str w AP g.params) (hlp : g.params.length ≤ 8796093022208) (hgr : okStr g.result) (hd : Hid (x.dst ≠ -1 → varB f.vars.length x.dst = true)) :
  Calls Tryz.prog 235 #[.agg #[.slice AH cs.length cH,.string f.cls,.string f.name,.bool f.static,.int .i64 f.nparams,.slice AV f.vars.length cV,.string f.result,.slice AC f.code.length cC],.agg #[.int .i64 x.op,.int .i64 x.dst,.int .i64 x.a,.int .i64 x.b,.int .i64 x.n,.string x.cls,.string x.name,.slice AI x.args.length cI,.int .i64 x.jmp,.int .i64 x.hnd],.agg #[.string g.name,.bool g.static,.slice AP g.params.length cP,.string g.result]] w fun e w' => e = .returned (.int .i64 (callE cs f.vars x g)) ∧ Below w.heap.size w w' := by
 obtain ⟨r,HR⟩ : ∃ r,Hid (r = callE cs f.vars x g) := ⟨_,Lib.hid rfl⟩
 rw [← HR.out]
 by_cases hlen : x.args.length ≠ g.params.length
 ·have HB : Hid (r = 9) := by show r = 9; rw [HR.out,callE_len hlen]
  have hb0 : Below w.heap.size w (((w.alloc (.cells #[.slice AH cs.length cH,.string f.cls,.string f.name,.bool f.static,.int .i64 f.nparams,.slice AV f.vars.length cV,.string f.result,.slice AC f.code.length cC] 257)).alloc (.cells #[.int .i64 x.op,.int .i64 x.dst,.int .i64 x.a,.int .i64 x.b,.int .i64 x.n,.string x.cls,.string x.name,.slice AI x.args.length cI,.int .i64 x.jmp,.int .i64 x.hnd] 59)).alloc (.cells #[.string g.name,.bool g.static,.slice AP g.params.length cP,.string g.result] 36)) := (by repeat (first | assumption | exact Below.refl _ _ | apply bw_alloc | apply bw_drew | apply bw_drewN | apply bw_later | apply bw_step))
  have hq : ((x.args.length : Int) != (g.params.length : Int)) = true := by simp; omega
  have hq2 : (x.args.length != g.params.length) = true := by simpa using hlen
  clear hlen
  go_enter Tryz.func235,Tryz.ntmps235
  go_wp2_with fail
  go_ret
  exact ⟨by rw [HB.out]; rfl,hb0⟩
 replace hlen : x.args.length = g.params.length := Classical.not_not.1 hlen
 have HL := Lib.hid hlen
 have hq : ((x.args.length : Int) != (g.params.length : Int)) = false := by simp; omega
 have hq2 : (x.args.length != g.params.length) = false := by simpa using hlen
 clear hlen
 go_enter Tryz.func235,Tryz.ntmps235
 go_wp2_with fail
 generalize hW : World.alloc _ _ = W1 at *
 have hb1 : Below w.heap.size w W1 := by rw [← hW]; exact (by repeat (first | assumption | exact Below.refl _ _ | apply bw_alloc | apply bw_drew | apply bw_drewN | apply bw_later | apply bw_step))
 have bt : Box W1 w.heap.size [.slice AH cs.length cH,.string f.cls,.string f.name,.bool f.static,.int .i64 f.nparams,.slice AV f.vars.length cV,.string f.result,.slice AC f.code.length cC] 257 := by rw [← hW]; exact (by repeat (first | (refine Box.at ?_; (simp; done)) | apply Box.drew | apply Box.alloc | assumption))
 have bx : Box W1 (w.heap.size + 1) [.int .i64 x.op,.int .i64 x.dst,.int .i64 x.a,.int .i64 x.b,.int .i64 x.n,.string x.cls,.string x.name,.slice AI x.args.length cI,.int .i64 x.jmp,.int .i64 x.hnd] 59 := by rw [← hW]; exact (by repeat (first | (refine Box.at ?_; (simp; done)) | apply Box.drew | apply Box.alloc | assumption))
 have bg : Box W1 (w.heap.size + 2) [.string g.name,.bool g.static,.slice AP g.params.length cP,.string g.result] 36 := by rw [← hW]; exact (by repeat (first | (refine Box.at ?_; (simp; done)) | apply Box.drew | apply Box.alloc | assumption))
 clear hW hq hq2
 go_loopw [7,8,19] (fun _ _ i wr => ∃ k : Nat,k ≤ x.args.length ∧ i = .int .i64 k ∧ Hid (∀ i,i < k → callG cs f.vars x g i = false) ∧ Below W1.heap.size W1 wr) (fun _ _ i _ => x.args.length - (intOf i).toNat)
 case atStart => exact ⟨0,Nat.zero_le _,rfl,fun i hi => by omega,Below.refl _ _⟩
 case round =>
  obtain ⟨k,hk,rfl,HN,hbw⟩ := hrel
  have hbw1 := below_step hb1 hbw
  have bt1 := bt.mono hbw
  have bx1 := bx.mono hbw
  have bg1 := bg.mono hbw
  by_cases hlt : k < x.args.length
  ·have hlt2 : k < g.params.length := by have := HL.out; omega
   have hvk := hva.out _ (List.getElem_mem hlt)
   have HC1 : Hid (∀ y : Later wr,Calls Tryz.prog 232 #[.agg #[.slice AH cs.length cH,.string f.cls,.string f.name,.bool f.static,.int .i64 f.nparams,.slice AV f.vars.length cV,.string f.result,.slice AC f.code.length cC],.int .i64 x.args[k]] y.W fun e w' => e = .returned (.string (tyOf f.vars x.args[k])) ∧ Below y.W.heap.size y.W w') := fun y => tyrOf_any cs f AH AV AC cH cV cC _ y.W hvk (hv.mono (below_step hbw1 y.h))
   have HC2 : Hid (∀ y : Later wr,Calls Tryz.prog 231 #[.agg #[.slice AH cs.length cH,.string f.cls,.string f.name,.bool f.static,.int .i64 f.nparams,.slice AV f.vars.length cV,.string f.result,.slice AC f.code.length cC],.string (tyOf f.vars x.args[k]),.string g.params[k]] y.W fun e w' => e = .returned (.bool (fitsB cs (tyOf f.vars x.args[k]) g.params[k])) ∧ Below y.W.heap.size y.W w') := fun y => tyrFits_any cs f AH AV AC cH cV cC _ _ y.W hl hcc (hs.mono (below_step hbw1 y.h)) hok (tyOf_ok hvo.out _)
   have HG := Lib.hid (callG_at (cs := cs) (vars := f.vars) hlt hlt2)
   obtain ⟨bA,oA,rfl,hbA,a0⟩ := (ha.mono hbw1).int_at hlt
   obtain ⟨bP,oP,rfl,hbP,p0⟩ := (hp.mono hbw1).str_at hlt2
   clear hvk
   generalize fitsB cs (tyOf f.vars x.args[k]) g.params[k] = fb at *
   generalize tyOf f.vars x.args[k] = ty at *
   have t0 := bt1.cell 0 rfl
   have t1 := bt1.cell 1 rfl
   have t2 := bt1.cell 2 rfl
   have t3 := bt1.cell 3 rfl
   have t4 := bt1.cell 4 rfl
   have t5 := bt1.cell 5 rfl
   have t6 := bt1.cell 6 rfl
   have t7 := bt1.cell 7 rfl
   have tl := bt1.lt
   have g2 := bg1.cell 2 rfl
   have gl := bg1.lt
   go_upto_region 6 with fail
   refine wp_region_later (by kernel_rfl) (by kernel_rfl) ?_
   repeat (go_big_quiet_step (first | (go_at_call 232; with_reducible exact Calls.later (HC1.out _)) | (go_at_call 231; with_reducible exact Calls.later (HC2.out _))))
   refine wpQuiet_nil ?_
   rintro _ ⟨y,rfl⟩
   have hby := below_step hbw1 y.h
   cases fb with
   | false =>
    have HB : Hid (r = 8) := by show r = 8; rw [HR.out,callE_hit HL.out hlt (by rw [HG.out]; rfl)]
    go_wp2_with fail
    go_ret
    exact ⟨by rw [HB.out]; rfl,hby⟩
   | true =>
    have HN2 : Hid (∀ i,i < k + 1 → callG cs f.vars x g i = false) := fun i hi => by
     by_cases e : i = k
     ·subst e; rw [HG.out]; rfl
     ·exact HN.out i (by omega)
    clear HG HC1 HC2
    go_wp2_with fail
    go_roundw
    case rel => exact ⟨k + 1,by omega,by go_num,HN2,below_step hbw y.h⟩
    case measure => simp [intOf]; omega
  ·have HZ : Hid (r = typed (callZ cs f.vars x g)) := by show r = _; rw [HR.out,callE_pass HL.out (fun i hi => HN.out i (by omega))]
   clear HR HN
   have t0 := bt1.cell 0 rfl
   have t1 := bt1.cell 1 rfl
   have t2 := bt1.cell 2 rfl
   have t3 := bt1.cell 3 rfl
   have t4 := bt1.cell 4 rfl
   have t5 := bt1.cell 5 rfl
   have t6 := bt1.cell 6 rfl
   have t7 := bt1.cell 7 rfl
   have tl := bt1.lt
   have x1 := bx1.cell 1 rfl
   have xl := bx1.lt
   have g3 := bg1.cell 3 rfl
   have gl := bg1.lt
   cases hd1 : (x.dst == -1) with
   | true =>
    have HB : Hid (r = 0) := by show r = 0; rw [HZ.out]; unfold callZ; rw [decide_eq_true (by simpa using hd1)]; rfl
    go_upto_region 9 with fail
    refine wp_region_later (by kernel_rfl) (by kernel_rfl) ?_
    repeat (go_big_quiet_step (first | (go_at_call 229; with_reducible exact Calls.later_same (typed_any true _))))
    refine wpQuiet_nil ?_
    rintro _ ⟨y,rfl⟩
    go_wp2_with fail
    go_ret
    exact ⟨by rw [HB.out]; rfl,below_step hbw1 y.h⟩
   | false =>
    have hdn : x.dst ≠ -1 := by simpa using hd1
    have HZ2 : Hid (r = typed (!g.result.toList.isEmpty && fitsB cs g.result (tyOf f.vars x.dst))) := by show r = _; rw [HZ.out]; unfold callZ; rw [decide_eq_false hdn]; rfl
    have hvd := hd.out hdn
    clear HZ hdn
    cases he : g.result.toList.isEmpty with
    | true =>
     have he2 : (g.result.toList == ([] : List UInt8)) = true := by simpa using he
     have he3 : (g.result.toList != ([] : List UInt8)) = false := by rw [bne,he2]; rfl
     have HB : Hid (r = 8) := by show r = 8; rw [HZ2.out,he]; rfl
     go_upto_region 9 with fail
     refine wp_region_later (by kernel_rfl) (by kernel_rfl) ?_
     repeat (go_big_quiet_step (first | (go_at_call 229; with_reducible exact Calls.later_same (typed_any false _))))
     refine wpQuiet_nil ?_
     rintro _ ⟨y,rfl⟩
     go_wp2_with fail
     go_ret
     exact ⟨by rw [HB.out]; rfl,below_step hbw1 y.h⟩
    | false =>
     have he2 : (g.result.toList == ([] : List UInt8)) = false := by
      cases h : (g.result.toList == ([] : List UInt8)) with
      | false => rfl
      | true => rw [beq_iff_eq] at h; rw [h] at he; cases he
     have he3 : (g.result.toList != ([] : List UInt8)) = true := by rw [bne,he2]; rfl
     have HZ3 : Hid (r = typed (fitsB cs g.result (tyOf f.vars x.dst))) := by show r = _; rw [HZ2.out,he]; rfl
     have HC1 : Hid (∀ y : Later wr,Calls Tryz.prog 232 #[.agg #[.slice AH cs.length cH,.string f.cls,.string f.name,.bool f.static,.int .i64 f.nparams,.slice AV f.vars.length cV,.string f.result,.slice AC f.code.length cC],.int .i64 x.dst] y.W fun e w' => e = .returned (.string (tyOf f.vars x.dst)) ∧ Below y.W.heap.size y.W w') := fun y => tyrOf_any cs f AH AV AC cH cV cC _ y.W hvd (hv.mono (below_step hbw1 y.h))
     have HC2 : Hid (∀ y : Later wr,Calls Tryz.prog 231 #[.agg #[.slice AH cs.length cH,.string f.cls,.string f.name,.bool f.static,.int .i64 f.nparams,.slice AV f.vars.length cV,.string f.result,.slice AC f.code.length cC],.string g.result,.string (tyOf f.vars x.dst)] y.W fun e w' => e = .returned (.bool (fitsB cs g.result (tyOf f.vars x.dst))) ∧ Below y.W.heap.size y.W w') := fun y => tyrFits_any cs f AH AV AC cH cV cC _ _ y.W hl hcc (hs.mono (below_step hbw1 y.h)) hok hgr
     clear HZ2 hvd
     generalize fitsB cs g.result (tyOf f.vars x.dst) = fb at *
     generalize tyOf f.vars x.dst = ty at *
     go_upto_region 9 with fail
     refine wp_region_later (by kernel_rfl) (by kernel_rfl) ?_
     repeat (go_big_quiet_step (first | (go_at_call 232; with_reducible exact Calls.later (HC1.out _)) | (go_at_call 231; with_reducible exact Calls.later (HC2.out _)) | (go_at_call 229; with_reducible exact Calls.later_same (typed_any fb _))))
     refine wpQuiet_nil ?_
     rintro _ ⟨y,rfl⟩
     go_wp2_with fail
     go_ret
     exact ⟨by rw [HZ3.out]; rfl,below_step hbw1 y.h⟩
theorem fTyp_ok {cs : List Cls} (h : StrOk cs) (n : ByteArray) (j : Int) : okStr (fTyp cs n j) := by
 unfold fTyp
 cases hj : cs[j.toNat]? with
 | none => show ByteArray.empty.size ≤ _; decide
 | some c =>
  show okStr (((c.fields[(fIdx cs n j).toNat]?).map (·.typ)).getD ByteArray.empty)
  cases hk : c.fields[(fIdx cs n j).toNat]? with
  | none => show ByteArray.empty.size ≤ _; decide
  | some y => exact ((h c (List.mem_of_getElem? hj)).2.1 y (List.mem_of_getElem? hk)).2
theorem fieldL_ok {cs : List Cls} (h : StrOk cs) (n : ByteArray) : ∀ l : List Int,okStr (fieldL cs n l).2.1
 | [] => by show ByteArray.empty.size ≤ _; decide
 | j :: r => by
  unfold fieldL
  split
  ·exact fTyp_ok h n j
  ·exact fieldL_ok h n r
theorem fieldS_ok {cs : List Cls} (h : StrOk cs) (s n : ByteArray) : okStr (fieldS cs s n).2.1 := fieldL_ok h n _
theorem fieldE_no {cs : List Cls} {vars : List Fld} {c : Ins} (h : isClsT cs (tyOf vars c.a) = false) : fieldE cs vars c = 8 := by unfold fieldE; rw [h]; rfl
theorem fieldE_un {cs : List Cls} {vars : List Fld} {c : Ins} (h : isClsT cs (tyOf vars c.a) = true) (h2 : (fieldS cs (tyOf vars c.a) c.name).2.2 = false) : fieldE cs vars c = 6 := by unfold fieldE; rw [h,h2]; rfl
theorem fieldE_load {cs : List Cls} {vars : List Fld} {c : Ins} (h : isClsT cs (tyOf vars c.a) = true) (h2 : (fieldS cs (tyOf vars c.a) c.name).2.2 = true) (h3 : c.op = 7) : fieldE cs vars c = typed (fitsB cs (fieldS cs (tyOf vars c.a) c.name).2.1 (tyOf vars c.dst)) := by
 unfold fieldE; rw [h,h2,if_pos h3]; rfl
theorem fieldE_store {cs : List Cls} {vars : List Fld} {c : Ins} (h : isClsT cs (tyOf vars c.a) = true) (h2 : (fieldS cs (tyOf vars c.a) c.name).2.2 = true) (h3 : c.op ≠ 7) : fieldE cs vars c = typed (fitsB cs (tyOf vars c.b) (fieldS cs (tyOf vars c.a) c.name).2.1) := by
 unfold fieldE; rw [h,h2,if_neg h3]; rfl
theorem tyrField_any (cs : List Cls) (f : Fun) (x : Ins) (AH AV AC AI : Option Addr) (cH cV cC cI : Nat) (w : World) (hl : cs.length ≤ 8796093022208) (hcc : cs.length ≤ cH) (hs : Sl Lay.cls w AH cs) (hok : Hid (StrOk cs)) (hlk : Hid (LensOk cs))
  (hv : Sl Lay.fld w AV f.vars) (hvo : Hid (∀ v ∈ f.vars,okStr v.typ)) (hva : varB f.vars.length x.a = true) (hvd : Hid (x.op = 7 → varB f.vars.length x.dst = true)) (hvb : Hid (x.op ≠ 7 → varB f.vars.length x.b = true)) :
  Calls Tryz.prog 233 #[.agg #[.slice AH cs.length cH,.string f.cls,.string f.name,.bool f.static,.int .i64 f.nparams,.slice AV f.vars.length cV,.string f.result,.slice AC f.code.length cC],.agg #[.int .i64 x.op,.int .i64 x.dst,.int .i64 x.a,.int .i64 x.b,.int .i64 x.n,.string x.cls,.string x.name,.slice AI x.args.length cI,.int .i64 x.jmp,.int .i64 x.hnd]] w fun e w' => e = .returned (.int .i64 (fieldE cs f.vars x)) ∧ Below w.heap.size w w' := by
 obtain ⟨r,HR⟩ : ∃ r,Hid (r = fieldE cs f.vars x) := ⟨_,Lib.hid rfl⟩
 rw [← HR.out]
 go_enter Tryz.func233,Tryz.ntmps233
 go_upto_region 1 with fail
 generalize hW : World.alloc _ _ = W1 at *
 have hb1 : Below w.heap.size w W1 := by rw [← hW]; exact (by repeat (first | assumption | exact Below.refl _ _ | apply bw_alloc | apply bw_drew | apply bw_drewN | apply bw_later | apply bw_step))
 have bt : Box W1 w.heap.size [.slice AH cs.length cH,.string f.cls,.string f.name,.bool f.static,.int .i64 f.nparams,.slice AV f.vars.length cV,.string f.result,.slice AC f.code.length cC] 257 := by rw [← hW]; exact (by repeat (first | (refine Box.at ?_; (simp; done)) | apply Box.drew | apply Box.alloc | assumption))
 have bx : Box W1 (w.heap.size + 1) [.int .i64 x.op,.int .i64 x.dst,.int .i64 x.a,.int .i64 x.b,.int .i64 x.n,.string x.cls,.string x.name,.slice AI x.args.length cI,.int .i64 x.jmp,.int .i64 x.hnd] 59 := by rw [← hW]; exact (by repeat (first | (refine Box.at ?_; (simp; done)) | apply Box.drew | apply Box.alloc | assumption))
 clear hW
 have HC1 : Hid (∀ y : Later W1,Calls Tryz.prog 232 #[.agg #[.slice AH cs.length cH,.string f.cls,.string f.name,.bool f.static,.int .i64 f.nparams,.slice AV f.vars.length cV,.string f.result,.slice AC f.code.length cC],.int .i64 x.a] y.W fun e w' => e = .returned (.string (tyOf f.vars x.a)) ∧ Below y.W.heap.size y.W w') := fun y => tyrOf_any cs f AH AV AC cH cV cC _ y.W hva (hv.mono (below_step hb1 y.h))
 have HC2 : Hid (∀ y : Later W1,Calls Tryz.prog 234 #[.agg #[.slice AH cs.length cH,.string f.cls,.string f.name,.bool f.static,.int .i64 f.nparams,.slice AV f.vars.length cV,.string f.result,.slice AC f.code.length cC],.string (tyOf f.vars x.a)] y.W fun e w' => e = .returned (.bool (isClsT cs (tyOf f.vars x.a))) ∧ Below y.W.heap.size y.W w') := fun y => tyrIsClass_any cs f AH AV AC cH cV cC _ y.W (by omega) (hs.mono (below_step hb1 y.h))
 have HC3 : Hid (∀ y : Later W1,Calls Tryz.prog 161 #[.agg #[.slice AH cs.length cH],.string (tyOf f.vars x.a),.string x.name] y.W fun e w' => e = .returned (.tuple #[.string (fieldS cs (tyOf f.vars x.a) x.name).1,.string (fieldS cs (tyOf f.vars x.a) x.name).2.1,.bool (fieldS cs (tyOf f.vars x.a) x.name).2.2]) ∧ Below y.W.heap.size y.W w') := fun y => field_any AH cH cs _ _ y.W hl hcc (hs.mono (below_step hb1 y.h)) hok.out.names hlk (tyOf_ok hvo.out _)
 have HFO := Lib.hid (fieldS_ok hok.out (tyOf f.vars x.a) x.name)
 have HE1 := Lib.hid (@fieldE_no cs f.vars x)
 have HE2 := Lib.hid (@fieldE_un cs f.vars x)
 have HE3 := Lib.hid (@fieldE_load cs f.vars x)
 have HE4 := Lib.hid (@fieldE_store cs f.vars x)
 generalize isClsT cs (tyOf f.vars x.a) = ic at *
 generalize fieldS cs (tyOf f.vars x.a) x.name = fs at *
 obtain ⟨fs1,fs2,fs3⟩ := fs
 generalize tyOf f.vars x.a = ty at *
 have t0 := bt.cell 0 rfl
 have t1 := bt.cell 1 rfl
 have t2 := bt.cell 2 rfl
 have t3 := bt.cell 3 rfl
 have t4 := bt.cell 4 rfl
 have t5 := bt.cell 5 rfl
 have t6 := bt.cell 6 rfl
 have t7 := bt.cell 7 rfl
 have tl := bt.lt
 have x0 := bx.cell 0 rfl
 have x1 := bx.cell 1 rfl
 have x2 := bx.cell 2 rfl
 have x3 := bx.cell 3 rfl
 have x6 := bx.cell 6 rfl
 have xl := bx.lt
 refine wp_region_later (by kernel_rfl) (by kernel_rfl) ?_
 repeat (go_big_quiet_step (first | (go_at_call 232; with_reducible exact Calls.later (HC1.out _)) | (go_at_call 234; with_reducible exact Calls.later (HC2.out _))))
 refine wpQuiet_nil ?_
 rintro _ ⟨y,rfl⟩
 have hby := below_step hb1 y.h
 cases ic with
 | false =>
  have HB : Hid (r = 8) := by show r = 8; rw [HR.out,HE1.out rfl]
  go_wp2_with fail
  go_ret
  exact ⟨by rw [HB.out]; rfl,hby⟩
 | true =>
  obtain ⟨W2,hW2⟩ : ∃ W2,W2 = y.W := ⟨_,rfl⟩
  have hb2 : Below w.heap.size w W2 := by rw [hW2]; exact hby
  have bt2 : Box W2 w.heap.size [.slice AH cs.length cH,.string f.cls,.string f.name,.bool f.static,.int .i64 f.nparams,.slice AV f.vars.length cV,.string f.result,.slice AC f.code.length cC] 257 := by rw [hW2]; exact bt.mono y.h
  have bx2 : Box W2 (w.heap.size + 1) [.int .i64 x.op,.int .i64 x.dst,.int .i64 x.a,.int .i64 x.b,.int .i64 x.n,.string x.cls,.string x.name,.slice AI x.args.length cI,.int .i64 x.jmp,.int .i64 x.hnd] 59 := by rw [hW2]; exact bx.mono y.h
  have hb12 : Below W1.heap.size W1 W2 := by rw [hW2]; exact y.h
  have HC1' : Hid (∀ z : Later W2,Calls Tryz.prog 232 #[.agg #[.slice AH cs.length cH,.string f.cls,.string f.name,.bool f.static,.int .i64 f.nparams,.slice AV f.vars.length cV,.string f.result,.slice AC f.code.length cC],.int .i64 x.a] z.W fun e w' => e = .returned (.string ty) ∧ Below z.W.heap.size z.W w') := fun z => HC1.out ⟨z.W,below_step hb12 z.h⟩
  have HC3' : Hid (∀ z : Later W2,Calls Tryz.prog 161 #[.agg #[.slice AH cs.length cH],.string ty,.string x.name] z.W fun e w' => e = .returned (.tuple #[.string fs1,.string fs2,.bool fs3]) ∧ Below z.W.heap.size z.W w') := fun z => HC3.out ⟨z.W,below_step hb12 z.h⟩
  rw [← hW2]
  clear hW2 HC1 HC2 HC3 hby t0 t1 t2 t3 t4 t5 t6 t7 tl x0 x1 x2 x3 x6 xl
  have t0 := bt2.cell 0 rfl
  have t1 := bt2.cell 1 rfl
  have t2 := bt2.cell 2 rfl
  have t3 := bt2.cell 3 rfl
  have t4 := bt2.cell 4 rfl
  have t5 := bt2.cell 5 rfl
  have t6 := bt2.cell 6 rfl
  have t7 := bt2.cell 7 rfl
  have tl := bt2.lt
  have x0 := bx2.cell 0 rfl
  have x1 := bx2.cell 1 rfl
  have x2 := bx2.cell 2 rfl
  have x3 := bx2.cell 3 rfl
  have x6 := bx2.cell 6 rfl
  have xl := bx2.lt
  go_upto_region 3 with fail
  refine wp_region_later (by kernel_rfl) (by kernel_rfl) ?_
  repeat (go_big_quiet_step (first | (go_at_call 232; with_reducible exact Calls.later (HC1'.out _)) | (go_at_call 161; with_reducible exact Calls.later (HC3'.out _))))
  refine wpQuiet_nil ?_
  rintro _ ⟨z,rfl⟩
  have hbz := below_step hb2 z.h
  cases fs3 with
  | false =>
   have HB : Hid (r = 6) := by show r = 6; rw [HR.out,HE2.out rfl rfl]
   go_wp2_with fail
   go_ret
   exact ⟨by rw [HB.out]; rfl,hbz⟩
  | true =>
   have bt3 := bt2.mono z.h
   have bx3 := bx2.mono z.h
   obtain ⟨W3,hW3⟩ : ∃ W3,W3 = z.W := ⟨_,rfl⟩
   rw [← hW3] at hbz bt3 bx3 ⊢
   clear hW3 HC1' HC3' t0 t1 t2 t3 t4 t5 t6 t7 tl x0 x1 x2 x3 x6 xl
   have t0 := bt3.cell 0 rfl
   have t1 := bt3.cell 1 rfl
   have t2 := bt3.cell 2 rfl
   have t3 := bt3.cell 3 rfl
   have t4 := bt3.cell 4 rfl
   have t5 := bt3.cell 5 rfl
   have t6 := bt3.cell 6 rfl
   have t7 := bt3.cell 7 rfl
   have tl := bt3.lt
   have x0 := bx3.cell 0 rfl
   have x1 := bx3.cell 1 rfl
   have x2 := bx3.cell 2 rfl
   have x3 := bx3.cell 3 rfl
   have xl := bx3.lt
   cases h7 : (x.op == 7) with
   | true =>
    have h7' : x.op = 7 := by simpa using h7
    have HB0 : Hid (r = typed (fitsB cs fs2 (tyOf f.vars x.dst))) := by show r = _; rw [HR.out,HE3.out rfl rfl h7']
    have hvx := hvd.out h7'
    have HC1 : Hid (∀ y : Later W3,Calls Tryz.prog 232 #[.agg #[.slice AH cs.length cH,.string f.cls,.string f.name,.bool f.static,.int .i64 f.nparams,.slice AV f.vars.length cV,.string f.result,.slice AC f.code.length cC],.int .i64 x.dst] y.W fun e w' => e = .returned (.string (tyOf f.vars x.dst)) ∧ Below y.W.heap.size y.W w') := fun y => tyrOf_any cs f AH AV AC cH cV cC _ y.W hvx (hv.mono (below_step hbz y.h))
    have HC2 : Hid (∀ y : Later W3,Calls Tryz.prog 231 #[.agg #[.slice AH cs.length cH,.string f.cls,.string f.name,.bool f.static,.int .i64 f.nparams,.slice AV f.vars.length cV,.string f.result,.slice AC f.code.length cC],.string fs2,.string (tyOf f.vars x.dst)] y.W fun e w' => e = .returned (.bool (fitsB cs fs2 (tyOf f.vars x.dst))) ∧ Below y.W.heap.size y.W w') := fun y => tyrFits_any cs f AH AV AC cH cV cC _ _ y.W hl hcc (hs.mono (below_step hbz y.h)) hok.out.names HFO.out
    clear h7' hvx HE1 HE2 HE3 HE4
    generalize fitsB cs fs2 (tyOf f.vars x.dst) = fb at *
    generalize tyOf f.vars x.dst = td at *
    go_upto_region 7 with fail
    refine wp_region_later (by kernel_rfl) (by kernel_rfl) ?_
    repeat (go_big_quiet_step (first | (go_at_call 232; with_reducible exact Calls.later (HC1.out _)) | (go_at_call 231; with_reducible exact Calls.later (HC2.out _)) | (go_at_call 229; with_reducible exact Calls.later_same (typed_any fb _))))
    refine wpQuiet_nil ?_
    rintro _ ⟨y,rfl⟩
    go_wp2_with fail
    go_ret
    exact ⟨by rw [HB0.out]; rfl,below_step hbz y.h⟩
   | false =>
    have h7' : x.op ≠ 7 := by simpa using h7
    have HB0 : Hid (r = typed (fitsB cs (tyOf f.vars x.b) fs2)) := by show r = _; rw [HR.out,HE4.out rfl rfl h7']
    have hvx := hvb.out h7'
    have HC1 : Hid (∀ y : Later W3,Calls Tryz.prog 232 #[.agg #[.slice AH cs.length cH,.string f.cls,.string f.name,.bool f.static,.int .i64 f.nparams,.slice AV f.vars.length cV,.string f.result,.slice AC f.code.length cC],.int .i64 x.b] y.W fun e w' => e = .returned (.string (tyOf f.vars x.b)) ∧ Below y.W.heap.size y.W w') := fun y => tyrOf_any cs f AH AV AC cH cV cC _ y.W hvx (hv.mono (below_step hbz y.h))
    have HC2 : Hid (∀ y : Later W3,Calls Tryz.prog 231 #[.agg #[.slice AH cs.length cH,.string f.cls,.string f.name,.bool f.static,.int .i64 f.nparams,.slice AV f.vars.length cV,.string f.result,.slice AC f.code.length cC],.string (tyOf f.vars x.b),.string fs2] y.W fun e w' => e = .returned (.bool (fitsB cs (tyOf f.vars x.b) fs2)) ∧ Below y.W.heap.size y.W w') := fun y => tyrFits_any cs f AH AV AC cH cV cC _ _ y.W hl hcc (hs.mono (below_step hbz y.h)) hok.out.names (tyOf_ok hvo.out _)
    clear h7' hvx HE1 HE2 HE3 HE4
    generalize fitsB cs (tyOf f.vars x.b) fs2 = fb at *
    generalize tyOf f.vars x.b = td at *
    go_upto_region 8 with fail
    refine wp_region_later (by kernel_rfl) (by kernel_rfl) ?_
    repeat (go_big_quiet_step (first | (go_at_call 232; with_reducible exact Calls.later (HC1.out _)) | (go_at_call 231; with_reducible exact Calls.later (HC2.out _)) | (go_at_call 229; with_reducible exact Calls.later_same (typed_any fb _))))
    refine wpQuiet_nil ?_
    rintro _ ⟨y,rfl⟩
    go_wp2_with fail
    go_ret
    exact ⟨by rw [HB0.out]; rfl,below_step hbz y.h⟩
end Go.Proofs.YtmhdambkchlilaaGreatDoor
