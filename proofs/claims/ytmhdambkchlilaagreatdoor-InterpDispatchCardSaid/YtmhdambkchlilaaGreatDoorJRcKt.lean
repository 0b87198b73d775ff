/- Chapter 12: the answer's types: the error of the types of an instruction. -/
import Derived.Test.YtmhdambkchlilaaGreatDoorJRi
import Derived.Test.YtmhdambkchlilaaGreatDoorJRcK
namespace Go.Proofs.YtmhdambkchlilaaGreatDoor
open Go.RowKit
set_option linter.unusedVariables false
set_option maxRecDepth 100000
set_option maxHeartbeats 2000000
theorem refTypes_0 (cs : List Cls) (f : Fun) (x : Ins) (AH AV AC AI : Option Addr) (cH cV cC cI : Nat) (w : World) (H : Hid (TyH w cs f x AH AV AI cH)) (hn : Hid (NoKw cs)) (hop : x.op = 0) :
  Calls Tryz.prog 271 #[.agg #[.slice AH cs.length cH],.agg #[.string f.cls,.string f.name,.bool f.static,.int .i64 f.nparams,.slice AV f.vars.length cV,.string f.result,.slice AC f.code.length cC],.agg #[.int .i64 x.op,.int .i64 x.dst,.int .i64 x.a,.int .i64 x.b,.int .i64 x.n,.string x.cls,.string x.name,.slice AI x.args.length cI,.int .i64 x.jmp,.int .i64 x.hnd]] w fun e w' => e = .returned (.int .i64 (insT cs f.vars f.result x)) ∧ Below w.heap.size w w' := by
 obtain ⟨r,HR⟩ : ∃ r,Hid (r = insT cs f.vars f.result x) := ⟨_,Lib.hid rfl⟩
 rw [← HR.out]
 have e6 : (x.op == 6) = false := by rw [hop]; rfl
 have e15 : (x.op == 15) = false := by rw [hop]; rfl
 have e7 : (x.op == 7) = false := by rw [hop]; rfl
 have e8 : (x.op == 8) = false := by rw [hop]; rfl
 have e9 : (x.op == 9) = false := by rw [hop]; rfl
 have e10 : (x.op == 10) = false := by rw [hop]; rfl
 have e13 : (x.op == 13) = false := by rw [hop]; rfl
 have HM : Hid (∀ W,Below w.heap.size w W → Hid (TyH W cs f x AH AV AI cH)) := fun W hb => Lib.hid ⟨H.out.hl,H.out.hcc,H.out.hs.mono hb,H.out.hok,H.out.hlk,H.out.hv.mono hb,H.out.hvo,H.out.ha.mono hb,H.out.hla,H.out.hg,H.out.hxc,H.out.hxr⟩
 obtain ⟨bi,HBI⟩ : ∃ bi,Hid (bi = (true)) := ⟨_,Lib.hid rfl⟩
 have HB : Hid (r = typed bi) := by show r = _; rw [HR.out,HBI.out]; simp [insT,hop] <;> rfl
 have HI := Lib.hid (fun W (h : Below w.heap.size w W) => refInts_0 cs f x AH AV AC AI cH cV cC cI W (HM.out W h) hn hop)
 rw [← HBI.out] at HI
 clear HR HBI hop
 go_enter Tryz.func271,Tryz.ntmps271
 go_upto_region 1 with fail
 generalize hW : World.alloc _ _ = W1 at *
 have hb1 : Below w.heap.size w W1 := by rw [← hW]; exact (by repeat (first | assumption | exact Below.refl _ _ | apply bw_alloc | apply bw_drew | apply bw_drewN | apply bw_later | apply bw_step))
 have bh : Box W1 w.heap.size [.slice AH cs.length cH] 29 := by rw [← hW]; exact ((Box.new _ _ _).alloc _).alloc _
 have bf : Box W1 (w.heap.size + 1) [.string f.cls,.string f.name,.bool f.static,.int .i64 f.nparams,.slice AV f.vars.length cV,.string f.result,.slice AC f.code.length cC] 42 := by rw [← hW]; exact Box.alloc (w := (w.alloc _).alloc _) (Box.at (w := w.alloc _) (by simp)) _
 have bx : Box W1 (w.heap.size + 2) [.int .i64 x.op,.int .i64 x.dst,.int .i64 x.a,.int .i64 x.b,.int .i64 x.n,.string x.cls,.string x.name,.slice AI x.args.length cI,.int .i64 x.jmp,.int .i64 x.hnd] 59 := by rw [← hW]; refine Box.at (w := (w.alloc _).alloc _) ?_; simp
 clear hW
 have f0 := bf.cell 0 rfl
 have f1 := bf.cell 1 rfl
 have f2 := bf.cell 2 rfl
 have f3 := bf.cell 3 rfl
 have f4 := bf.cell 4 rfl
 have f5 := bf.cell 5 rfl
 have f6 := bf.cell 6 rfl
 have fl := bf.lt
 have x0 := bx.cell 0 rfl
 have x1 := bx.cell 1 rfl
 have x2 := bx.cell 2 rfl
 have x3 := bx.cell 3 rfl
 have x4 := bx.cell 4 rfl
 have x5 := bx.cell 5 rfl
 have x6 := bx.cell 6 rfl
 have x7 := bx.cell 7 rfl
 have x8 := bx.cell 8 rfl
 have x9 := bx.cell 9 rfl
 have xl := bx.lt
 have h0 := bh.cell 0 rfl
 have hlh := bh.lt
 go_wp2_with fail
 refine (HI.out _ hb1).mono ?_
 rintro e w2 ⟨rfl,hq2⟩
 cases bi with
 | false =>
  go_wp2_with fail
  go_ret
  exact ⟨by rw [HB.out]; rfl,below_step hb1 hq2⟩
 | true =>
  go_wp2_with fail
  go_ret
  exact ⟨by rw [HB.out]; rfl,below_step hb1 hq2⟩
theorem refTypes_12 (cs : List Cls) (f : Fun) (x : Ins) (AH AV AC AI : Option Addr) (cH cV cC cI : Nat) (w : World) (H : Hid (TyH w cs f x AH AV AI cH)) (hn : Hid (NoKw cs)) (hop : x.op = 12) :
  Calls Tryz.prog 271 #[.agg #[.slice AH cs.length cH],.agg #[.string f.cls,.string f.name,.bool f.static,.int .i64 f.nparams,.slice AV f.vars.length cV,.string f.result,.slice AC f.code.length cC],.agg #[.int .i64 x.op,.int .i64 x.dst,.int .i64 x.a,.int .i64 x.b,.int .i64 x.n,.string x.cls,.string x.name,.slice AI x.args.length cI,.int .i64 x.jmp,.int .i64 x.hnd]] w fun e w' => e = .returned (.int .i64 (insT cs f.vars f.result x)) ∧ Below w.heap.size w w' := by
 obtain ⟨r,HR⟩ : ∃ r,Hid (r = insT cs f.vars f.result x) := ⟨_,Lib.hid rfl⟩
 rw [← HR.out]
 have e6 : (x.op == 6) = false := by rw [hop]; rfl
 have e15 : (x.op == 15) = false := by rw [hop]; rfl
 have e7 : (x.op == 7) = false := by rw [hop]; rfl
 have e8 : (x.op == 8) = false := by rw [hop]; rfl
 have e9 : (x.op == 9) = false := by rw [hop]; rfl
 have e10 : (x.op == 10) = false := by rw [hop]; rfl
 have e13 : (x.op == 13) = false := by rw [hop]; rfl
 have HM : Hid (∀ W,Below w.heap.size w W → Hid (TyH W cs f x AH AV AI cH)) := fun W hb => Lib.hid ⟨H.out.hl,H.out.hcc,H.out.hs.mono hb,H.out.hok,H.out.hlk,H.out.hv.mono hb,H.out.hvo,H.out.ha.mono hb,H.out.hla,H.out.hg,H.out.hxc,H.out.hxr⟩
 obtain ⟨bi,HBI⟩ : ∃ bi,Hid (bi = (true)) := ⟨_,Lib.hid rfl⟩
 have HB : Hid (r = typed bi) := by show r = _; rw [HR.out,HBI.out]; simp [insT,hop] <;> rfl
 have HI := Lib.hid (fun W (h : Below w.heap.size w W) => refInts_12 cs f x AH AV AC AI cH cV cC cI W (HM.out W h) hn hop)
 rw [← HBI.out] at HI
 clear HR HBI hop
 go_enter Tryz.func271,Tryz.ntmps271
 go_upto_region 1 with fail
 generalize hW : World.alloc _ _ = W1 at *
 have hb1 : Below w.heap.size w W1 := by rw [← hW]; exact (by repeat (first | assumption | exact Below.refl _ _ | apply bw_alloc | apply bw_drew | apply bw_drewN | apply bw_later | apply bw_step))
 have bh : Box W1 w.heap.size [.slice AH cs.length cH] 29 := by rw [← hW]; exact ((Box.new _ _ _).alloc _).alloc _
 have bf : Box W1 (w.heap.size + 1) [.string f.cls,.string f.name,.bool f.static,.int .i64 f.nparams,.slice AV f.vars.length cV,.string f.result,.slice AC f.code.length cC] 42 := by rw [← hW]; exact Box.alloc (w := (w.alloc _).alloc _) (Box.at (w := w.alloc _) (by simp)) _
 have bx : Box W1 (w.heap.size + 2) [.int .i64 x.op,.int .i64 x.dst,.int .i64 x.a,.int .i64 x.b,.int .i64 x.n,.string x.cls,.string x.name,.slice AI x.args.length cI,.int .i64 x.jmp,.int .i64 x.hnd] 59 := by rw [← hW]; refine Box.at (w := (w.alloc _).alloc _) ?_; simp
 clear hW
 have f0 := bf.cell 0 rfl
 have f1 := bf.cell 1 rfl
 have f2 := bf.cell 2 rfl
 have f3 := bf.cell 3 rfl
 have f4 := bf.cell 4 rfl
 have f5 := bf.cell 5 rfl
 have f6 := bf.cell 6 rfl
 have fl := bf.lt
 have x0 := bx.cell 0 rfl
 have x1 := bx.cell 1 rfl
 have x2 := bx.cell 2 rfl
 have x3 := bx.cell 3 rfl
 have x4 := bx.cell 4 rfl
 have x5 := bx.cell 5 rfl
 have x6 := bx.cell 6 rfl
 have x7 := bx.cell 7 rfl
 have x8 := bx.cell 8 rfl
 have x9 := bx.cell 9 rfl
 have xl := bx.lt
 have h0 := bh.cell 0 rfl
 have hlh := bh.lt
 go_wp2_with fail
 refine (HI.out _ hb1).mono ?_
 rintro e w2 ⟨rfl,hq2⟩
 cases bi with
 | false =>
  go_wp2_with fail
  go_ret
  exact ⟨by rw [HB.out]; rfl,below_step hb1 hq2⟩
 | true =>
  go_wp2_with fail
  go_ret
  exact ⟨by rw [HB.out]; rfl,below_step hb1 hq2⟩
theorem refTypes_1 (cs : List Cls) (f : Fun) (x : Ins) (AH AV AC AI : Option Addr) (cH cV cC cI : Nat) (w : World) (H : Hid (TyH w cs f x AH AV AI cH)) (hn : Hid (NoKw cs)) (hop : x.op = 1) :
  Calls Tryz.prog 271 #[.agg #[.slice AH cs.length cH],.agg #[.string f.cls,.string f.name,.bool f.static,.int .i64 f.nparams,.slice AV f.vars.length cV,.string f.result,.slice AC f.code.length cC],.agg #[.int .i64 x.op,.int .i64 x.dst,.int .i64 x.a,.int .i64 x.b,.int .i64 x.n,.string x.cls,.string x.name,.slice AI x.args.length cI,.int .i64 x.jmp,.int .i64 x.hnd]] w fun e w' => e = .returned (.int .i64 (insT cs f.vars f.result x)) ∧ Below w.heap.size w w' := by
 obtain ⟨r,HR⟩ : ∃ r,Hid (r = insT cs f.vars f.result x) := ⟨_,Lib.hid rfl⟩
 rw [← HR.out]
 have e6 : (x.op == 6) = false := by rw [hop]; rfl
 have e15 : (x.op == 15) = false := by rw [hop]; rfl
 have e7 : (x.op == 7) = false := by rw [hop]; rfl
 have e8 : (x.op == 8) = false := by rw [hop]; rfl
 have e9 : (x.op == 9) = false := by rw [hop]; rfl
 have e10 : (x.op == 10) = false := by rw [hop]; rfl
 have e13 : (x.op == 13) = false := by rw [hop]; rfl
 have HM : Hid (∀ W,Below w.heap.size w W → Hid (TyH W cs f x AH AV AI cH)) := fun W hb => Lib.hid ⟨H.out.hl,H.out.hcc,H.out.hs.mono hb,H.out.hok,H.out.hlk,H.out.hv.mono hb,H.out.hvo,H.out.ha.mono hb,H.out.hla,H.out.hg,H.out.hxc,H.out.hxr⟩
 obtain ⟨bi,HBI⟩ : ∃ bi,Hid (bi = (isIntT (tyOf f.vars x.dst))) := ⟨_,Lib.hid rfl⟩
 have HB : Hid (r = typed bi) := by show r = _; rw [HR.out,HBI.out]; simp [insT,hop] <;> rfl
 have HI := Lib.hid (fun W (h : Below w.heap.size w W) => refInts_1 cs f x AH AV AC AI cH cV cC cI W (HM.out W h) hn hop)
 rw [← HBI.out] at HI
 clear HR HBI hop
 go_enter Tryz.func271,Tryz.ntmps271
 go_upto_region 1 with fail
 generalize hW : World.alloc _ _ = W1 at *
 have hb1 : Below w.heap.size w W1 := by rw [← hW]; exact (by repeat (first | assumption | exact Below.refl _ _ | apply bw_alloc | apply bw_drew | apply bw_drewN | apply bw_later | apply bw_step))
 have bh : Box W1 w.heap.size [.slice AH cs.length cH] 29 := by rw [← hW]; exact ((Box.new _ _ _).alloc _).alloc _
 have bf : Box W1 (w.heap.size + 1) [.string f.cls,.string f.name,.bool f.static,.int .i64 f.nparams,.slice AV f.vars.length cV,.string f.result,.slice AC f.code.length cC] 42 := by rw [← hW]; exact Box.alloc (w := (w.alloc _).alloc _) (Box.at (w := w.alloc _) (by simp)) _
 have bx : Box W1 (w.heap.size + 2) [.int .i64 x.op,.int .i64 x.dst,.int .i64 x.a,.int .i64 x.b,.int .i64 x.n,.string x.cls,.string x.name,.slice AI x.args.length cI,.int .i64 x.jmp,.int .i64 x.hnd] 59 := by rw [← hW]; refine Box.at (w := (w.alloc _).alloc _) ?_; simp
 clear hW
 have f0 := bf.cell 0 rfl
 have f1 := bf.cell 1 rfl
 have f2 := bf.cell 2 rfl
 have f3 := bf.cell 3 rfl
 have f4 := bf.cell 4 rfl
 have f5 := bf.cell 5 rfl
 have f6 := bf.cell 6 rfl
 have fl := bf.lt
 have x0 := bx.cell 0 rfl
 have x1 := bx.cell 1 rfl
 have x2 := bx.cell 2 rfl
 have x3 := bx.cell 3 rfl
 have x4 := bx.cell 4 rfl
 have x5 := bx.cell 5 rfl
 have x6 := bx.cell 6 rfl
 have x7 := bx.cell 7 rfl
 have x8 := bx.cell 8 rfl
 have x9 := bx.cell 9 rfl
 have xl := bx.lt
 have h0 := bh.cell 0 rfl
 have hlh := bh.lt
 go_wp2_with fail
 refine (HI.out _ hb1).mono ?_
 rintro e w2 ⟨rfl,hq2⟩
 cases bi with
 | false =>
  go_wp2_with fail
  go_ret
  exact ⟨by rw [HB.out]; rfl,below_step hb1 hq2⟩
 | true =>
  go_wp2_with fail
  go_ret
  exact ⟨by rw [HB.out]; rfl,below_step hb1 hq2⟩
theorem refTypes_5 (cs : List Cls) (f : Fun) (x : Ins) (AH AV AC AI : Option Addr) (cH cV cC cI : Nat) (w : World) (H : Hid (TyH w cs f x AH AV AI cH)) (hn : Hid (NoKw cs)) (hop : x.op = 5) :
  Calls Tryz.prog 271 #[.agg #[.slice AH cs.length cH],.agg #[.string f.cls,.string f.name,.bool f.static,.int .i64 f.nparams,.slice AV f.vars.length cV,.string f.result,.slice AC f.code.length cC],.agg #[.int .i64 x.op,.int .i64 x.dst,.int .i64 x.a,.int .i64 x.b,.int .i64 x.n,.string x.cls,.string x.name,.slice AI x.args.length cI,.int .i64 x.jmp,.int .i64 x.hnd]] w fun e w' => e = .returned (.int .i64 (insT cs f.vars f.result x)) ∧ Below w.heap.size w w' := by
 obtain ⟨r,HR⟩ : ∃ r,Hid (r = insT cs f.vars f.result x) := ⟨_,Lib.hid rfl⟩
 rw [← HR.out]
 have e6 : (x.op == 6) = false := by rw [hop]; rfl
 have e15 : (x.op == 15) = false := by rw [hop]; rfl
 have e7 : (x.op == 7) = false := by rw [hop]; rfl
 have e8 : (x.op == 8) = false := by rw [hop]; rfl
 have e9 : (x.op == 9) = false := by rw [hop]; rfl
 have e10 : (x.op == 10) = false := by rw [hop]; rfl
 have e13 : (x.op == 13) = false := by rw [hop]; rfl
 have HM : Hid (∀ W,Below w.heap.size w W → Hid (TyH W cs f x AH AV AI cH)) := fun W hb => Lib.hid ⟨H.out.hl,H.out.hcc,H.out.hs.mono hb,H.out.hok,H.out.hlk,H.out.hv.mono hb,H.out.hvo,H.out.ha.mono hb,H.out.hla,H.out.hg,H.out.hxc,H.out.hxr⟩
 obtain ⟨bi,HBI⟩ : ∃ bi,Hid (bi = (isIntT (tyOf f.vars x.dst))) := ⟨_,Lib.hid rfl⟩
 have HB : Hid (r = typed bi) := by show r = _; rw [HR.out,HBI.out]; simp [insT,hop] <;> rfl
 have HI := Lib.hid (fun W (h : Below w.heap.size w W) => refInts_5 cs f x AH AV AC AI cH cV cC cI W (HM.out W h) hn hop)
 rw [← HBI.out] at HI
 clear HR HBI hop
 go_enter Tryz.func271,Tryz.ntmps271
 go_upto_region 1 with fail
 generalize hW : World.alloc _ _ = W1 at *
 have hb1 : Below w.heap.size w W1 := by rw [← hW]; exact (by repeat (first | assumption | exact Below.refl _ _ | apply bw_alloc | apply bw_drew | apply bw_drewN | apply bw_later | apply bw_step))
 have bh : Box W1 w.heap.size [.slice AH cs.length cH] 29 := by rw [← hW]; exact ((Box.new _ _ _).alloc _).alloc _
 have bf : Box W1 (w.heap.size + 1) [.string f.cls,.string f.name,.bool f.static,.int .i64 f.nparams,.slice AV f.vars.length cV,.string f.result,.slice AC f.code.length cC] 42 := by rw [← hW]; exact Box.alloc (w := (w.alloc _).alloc _) (Box.at (w := w.alloc _) (by simp)) _
 have bx : Box W1 (w.heap.size + 2) [.int .i64 x.op,.int .i64 x.dst,.int .i64 x.a,.int .i64 x.b,.int .i64 x.n,.string x.cls,.string x.name,.slice AI x.args.length cI,.int .i64 x.jmp,.int .i64 x.hnd] 59 := by rw [← hW]; refine Box.at (w := (w.alloc _).alloc _) ?_; simp
 clear hW
 have f0 := bf.cell 0 rfl
 have f1 := bf.cell 1 rfl
 have f2 := bf.cell 2 rfl
 have f3 := bf.cell 3 rfl
 have f4 := bf.cell 4 rfl
 have f5 := bf.cell 5 rfl
 have f6 := bf.cell 6 rfl
 have fl := bf.lt
 have x0 := bx.cell 0 rfl
 have x1 := bx.cell 1 rfl
 have x2 := bx.cell 2 rfl
 have x3 := bx.cell 3 rfl
 have x4 := bx.cell 4 rfl
 have x5 := bx.cell 5 rfl
 have x6 := bx.cell 6 rfl
 have x7 := bx.cell 7 rfl
 have x8 := bx.cell 8 rfl
 have x9 := bx.cell 9 rfl
 have xl := bx.lt
 have h0 := bh.cell 0 rfl
 have hlh := bh.lt
 go_wp2_with fail
 refine (HI.out _ hb1).mono ?_
 rintro e w2 ⟨rfl,hq2⟩
 cases bi with
 | false =>
  go_wp2_with fail
  go_ret
  exact ⟨by rw [HB.out]; rfl,below_step hb1 hq2⟩
 | true =>
  go_wp2_with fail
  go_ret
  exact ⟨by rw [HB.out]; rfl,below_step hb1 hq2⟩
theorem refTypes_2 (cs : List Cls) (f : Fun) (x : Ins) (AH AV AC AI : Option Addr) (cH cV cC cI : Nat) (w : World) (H : Hid (TyH w cs f x AH AV AI cH)) (hn : Hid (NoKw cs)) (hop : x.op = 2) :
  Calls Tryz.prog 271 #[.agg #[.slice AH cs.length cH],.agg #[.string f.cls,.string f.name,.bool f.static,.int .i64 f.nparams,.slice AV f.vars.length cV,.string f.result,.slice AC f.code.length cC],.agg #[.int .i64 x.op,.int .i64 x.dst,.int .i64 x.a,.int .i64 x.b,.int .i64 x.n,.string x.cls,.string x.name,.slice AI x.args.length cI,.int .i64 x.jmp,.int .i64 x.hnd]] w fun e w' => e = .returned (.int .i64 (insT cs f.vars f.result x)) ∧ Below w.heap.size w w' := by
 obtain ⟨r,HR⟩ : ∃ r,Hid (r = insT cs f.vars f.result x) := ⟨_,Lib.hid rfl⟩
 rw [← HR.out]
 have e6 : (x.op == 6) = false := by rw [hop]; rfl
 have e15 : (x.op == 15) = false := by rw [hop]; rfl
 have e7 : (x.op == 7) = false := by rw [hop]; rfl
 have e8 : (x.op == 8) = false := by rw [hop]; rfl
 have e9 : (x.op == 9) = false := by rw [hop]; rfl
 have e10 : (x.op == 10) = false := by rw [hop]; rfl
 have e13 : (x.op == 13) = false := by rw [hop]; rfl
 have HM : Hid (∀ W,Below w.heap.size w W → Hid (TyH W cs f x AH AV AI cH)) := fun W hb => Lib.hid ⟨H.out.hl,H.out.hcc,H.out.hs.mono hb,H.out.hok,H.out.hlk,H.out.hv.mono hb,H.out.hvo,H.out.ha.mono hb,H.out.hla,H.out.hg,H.out.hxc,H.out.hxr⟩
 obtain ⟨bi,HBI⟩ : ∃ bi,Hid (bi = (!isIntT (tyOf f.vars x.dst))) := ⟨_,Lib.hid rfl⟩
 have HB : Hid (r = typed bi) := by show r = _; rw [HR.out,HBI.out]; simp [insT,hop] <;> rfl
 have HI := Lib.hid (fun W (h : Below w.heap.size w W) => refInts_2 cs f x AH AV AC AI cH cV cC cI W (HM.out W h) hn hop)
 rw [← HBI.out] at HI
 clear HR HBI hop
 go_enter Tryz.func271,Tryz.ntmps271
 go_upto_region 1 with fail
 generalize hW : World.alloc _ _ = W1 at *
 have hb1 : Below w.heap.size w W1 := by rw [← hW]; exact (by repeat (first | assumption | exact Below.refl _ _ | apply bw_alloc | apply bw_drew | apply bw_drewN | apply bw_later | apply bw_step))
 have bh : Box W1 w.heap.size [.slice AH cs.length cH] 29 := by rw [← hW]; exact ((Box.new _ _ _).alloc _).alloc _
 have bf : Box W1 (w.heap.size + 1) [.string f.cls,.string f.name,.bool f.static,.int .i64 f.nparams,.slice AV f.vars.length cV,.string f.result,.slice AC f.code.length cC] 42 := by rw [← hW]; exact Box.alloc (w := (w.alloc _).alloc _) (Box.at (w := w.alloc _) (by simp)) _
 have bx : Box W1 (w.heap.size + 2) [.int .i64 x.op,.int .i64 x.dst,.int .i64 x.a,.int .i64 x.b,.int .i64 x.n,.string x.cls,.string x.name,.slice AI x.args.length cI,.int .i64 x.jmp,.int .i64 x.hnd] 59 := by rw [← hW]; refine Box.at (w := (w.alloc _).alloc _) ?_; simp
 clear hW
 have f0 := bf.cell 0 rfl
 have f1 := bf.cell 1 rfl
 have f2 := bf.cell 2 rfl
 have f3 := bf.cell 3 rfl
 have f4 := bf.cell 4 rfl
 have f5 := bf.cell 5 rfl
 have f6 := bf.cell 6 rfl
 have fl := bf.lt
 have x0 := bx.cell 0 rfl
 have x1 := bx.cell 1 rfl
 have x2 := bx.cell 2 rfl
 have x3 := bx.cell 3 rfl
 have x4 := bx.cell 4 rfl
 have x5 := bx.cell 5 rfl
 have x6 := bx.cell 6 rfl
 have x7 := bx.cell 7 rfl
 have x8 := bx.cell 8 rfl
 have x9 := bx.cell 9 rfl
 have xl := bx.lt
 have h0 := bh.cell 0 rfl
 have hlh := bh.lt
 go_wp2_with fail
 refine (HI.out _ hb1).mono ?_
 rintro e w2 ⟨rfl,hq2⟩
 cases bi with
 | false =>
  go_wp2_with fail
  go_ret
  exact ⟨by rw [HB.out]; rfl,below_step hb1 hq2⟩
 | true =>
  go_wp2_with fail
  go_ret
  exact ⟨by rw [HB.out]; rfl,below_step hb1 hq2⟩
theorem refTypes_3 (cs : List Cls) (f : Fun) (x : Ins) (AH AV AC AI : Option Addr) (cH cV cC cI : Nat) (w : World) (H : Hid (TyH w cs f x AH AV AI cH)) (hn : Hid (NoKw cs)) (hop : x.op = 3) :
  Calls Tryz.prog 271 #[.agg #[.slice AH cs.length cH],.agg #[.string f.cls,.string f.name,.bool f.static,.int .i64 f.nparams,.slice AV f.vars.length cV,.string f.result,.slice AC f.code.length cC],.agg #[.int .i64 x.op,.int .i64 x.dst,.int .i64 x.a,.int .i64 x.b,.int .i64 x.n,.string x.cls,.string x.name,.slice AI x.args.length cI,.int .i64 x.jmp,.int .i64 x.hnd]] w fun e w' => e = .returned (.int .i64 (insT cs f.vars f.result x)) ∧ Below w.heap.size w w' := by
 obtain ⟨r,HR⟩ : ∃ r,Hid (r = insT cs f.vars f.result x) := ⟨_,Lib.hid rfl⟩
 rw [← HR.out]
 have e6 : (x.op == 6) = false := by rw [hop]; rfl
 have e15 : (x.op == 15) = false := by rw [hop]; rfl
 have e7 : (x.op == 7) = false := by rw [hop]; rfl
 have e8 : (x.op == 8) = false := by rw [hop]; rfl
 have e9 : (x.op == 9) = false := by rw [hop]; rfl
 have e10 : (x.op == 10) = false := by rw [hop]; rfl
 have e13 : (x.op == 13) = false := by rw [hop]; rfl
 have HM : Hid (∀ W,Below w.heap.size w W → Hid (TyH W cs f x AH AV AI cH)) := fun W hb => Lib.hid ⟨H.out.hl,H.out.hcc,H.out.hs.mono hb,H.out.hok,H.out.hlk,H.out.hv.mono hb,H.out.hvo,H.out.ha.mono hb,H.out.hla,H.out.hg,H.out.hxc,H.out.hxr⟩
 obtain ⟨bi,HBI⟩ : ∃ bi,Hid (bi = (fitsB cs (tyOf f.vars x.a) (tyOf f.vars x.dst))) := ⟨_,Lib.hid rfl⟩
 have HB : Hid (r = typed bi) := by show r = _; rw [HR.out,HBI.out]; simp [insT,hop] <;> rfl
 have HI := Lib.hid (fun W (h : Below w.heap.size w W) => refInts_3 cs f x AH AV AC AI cH cV cC cI W (HM.out W h) hn hop)
 rw [← HBI.out] at HI
 clear HR HBI hop
 go_enter Tryz.func271,Tryz.ntmps271
 go_upto_region 1 with fail
 generalize hW : World.alloc _ _ = W1 at *
 have hb1 : Below w.heap.size w W1 := by rw [← hW]; exact (by repeat (first | assumption | exact Below.refl _ _ | apply bw_alloc | apply bw_drew | apply bw_drewN | apply bw_later | apply bw_step))
 have bh : Box W1 w.heap.size [.slice AH cs.length cH] 29 := by rw [← hW]; exact ((Box.new _ _ _).alloc _).alloc _
 have bf : Box W1 (w.heap.size + 1) [.string f.cls,.string f.name,.bool f.static,.int .i64 f.nparams,.slice AV f.vars.length cV,.string f.result,.slice AC f.code.length cC] 42 := by rw [← hW]; exact Box.alloc (w := (w.alloc _).alloc _) (Box.at (w := w.alloc _) (by simp)) _
 have bx : Box W1 (w.heap.size + 2) [.int .i64 x.op,.int .i64 x.dst,.int .i64 x.a,.int .i64 x.b,.int .i64 x.n,.string x.cls,.string x.name,.slice AI x.args.length cI,.int .i64 x.jmp,.int .i64 x.hnd] 59 := by rw [← hW]; refine Box.at (w := (w.alloc _).alloc _) ?_; simp
 clear hW
 have f0 := bf.cell 0 rfl
 have f1 := bf.cell 1 rfl
 have f2 := bf.cell 2 rfl
 have f3 := bf.cell 3 rfl
 have f4 := bf.cell 4 rfl
 have f5 := bf.cell 5 rfl
 have f6 := bf.cell 6 rfl
 have fl := bf.lt
 have x0 := bx.cell 0 rfl
 have x1 := bx.cell 1 rfl
 have x2 := bx.cell 2 rfl
 have x3 := bx.cell 3 rfl
 have x4 := bx.cell 4 rfl
 have x5 := bx.cell 5 rfl
 have x6 := bx.cell 6 rfl
 have x7 := bx.cell 7 rfl
 have x8 := bx.cell 8 rfl
 have x9 := bx.cell 9 rfl
 have xl := bx.lt
 have h0 := bh.cell 0 rfl
 have hlh := bh.lt
 go_wp2_with fail
 refine (HI.out _ hb1).mono ?_
 rintro e w2 ⟨rfl,hq2⟩
 cases bi with
 | false =>
  go_wp2_with fail
  go_ret
  exact ⟨by rw [HB.out]; rfl,below_step hb1 hq2⟩
 | true =>
  go_wp2_with fail
  go_ret
  exact ⟨by rw [HB.out]; rfl,below_step hb1 hq2⟩
theorem refTypes_16 (cs : List Cls) (f : Fun) (x : Ins) (AH AV AC AI : Option Addr) (cH cV cC cI : Nat) (w : World) (H : Hid (TyH w cs f x AH AV AI cH)) (hn : Hid (NoKw cs)) (hop : x.op = 16) :
  Calls Tryz.prog 271 #[.agg #[.slice AH cs.length cH],.agg #[.string f.cls,.string f.name,.bool f.static,.int .i64 f.nparams,.slice AV f.vars.length cV,.string f.result,.slice AC f.code.length cC],.agg #[.int .i64 x.op,.int .i64 x.dst,.int .i64 x.a,.int .i64 x.b,.int .i64 x.n,.string x.cls,.string x.name,.slice AI x.args.length cI,.int .i64 x.jmp,.int .i64 x.hnd]] w fun e w' => e = .returned (.int .i64 (insT cs f.vars f.result x)) ∧ Below w.heap.size w w' := by
 obtain ⟨r,HR⟩ : ∃ r,Hid (r = insT cs f.vars f.result x) := ⟨_,Lib.hid rfl⟩
 rw [← HR.out]
 have e6 : (x.op == 6) = false := by rw [hop]; rfl
 have e15 : (x.op == 15) = false := by rw [hop]; rfl
 have e7 : (x.op == 7) = false := by rw [hop]; rfl
 have e8 : (x.op == 8) = false := by rw [hop]; rfl
 have e9 : (x.op == 9) = false := by rw [hop]; rfl
 have e10 : (x.op == 10) = false := by rw [hop]; rfl
 have e13 : (x.op == 13) = false := by rw [hop]; rfl
 have HM : Hid (∀ W,Below w.heap.size w W → Hid (TyH W cs f x AH AV AI cH)) := fun W hb => Lib.hid ⟨H.out.hl,H.out.hcc,H.out.hs.mono hb,H.out.hok,H.out.hlk,H.out.hv.mono hb,H.out.hvo,H.out.ha.mono hb,H.out.hla,H.out.hg,H.out.hxc,H.out.hxr⟩
 obtain ⟨bi,HBI⟩ : ∃ bi,Hid (bi = (isIntT (tyOf f.vars x.a) && isIntT (tyOf f.vars x.dst))) := ⟨_,Lib.hid rfl⟩
 have HB : Hid (r = typed bi) := by show r = _; rw [HR.out,HBI.out]; simp [insT,hop] <;> rfl
 have HI := Lib.hid (fun W (h : Below w.heap.size w W) => refInts_16 cs f x AH AV AC AI cH cV cC cI W (HM.out W h) hn hop)
 rw [← HBI.out] at HI
 clear HR HBI hop
 go_enter Tryz.func271,Tryz.ntmps271
 go_upto_region 1 with fail
 generalize hW : World.alloc _ _ = W1 at *
 have hb1 : Below w.heap.size w W1 := by rw [← hW]; exact (by repeat (first | assumption | exact Below.refl _ _ | apply bw_alloc | apply bw_drew | apply bw_drewN | apply bw_later | apply bw_step))
 have bh : Box W1 w.heap.size [.slice AH cs.length cH] 29 := by rw [← hW]; exact ((Box.new _ _ _).alloc _).alloc _
 have bf : Box W1 (w.heap.size + 1) [.string f.cls,.string f.name,.bool f.static,.int .i64 f.nparams,.slice AV f.vars.length cV,.string f.result,.slice AC f.code.length cC] 42 := by rw [← hW]; exact Box.alloc (w := (w.alloc _).alloc _) (Box.at (w := w.alloc _) (by simp)) _
 have bx : Box W1 (w.heap.size + 2) [.int .i64 x.op,.int .i64 x.dst,.int .i64 x.a,.int .i64 x.b,.int .i64 x.n,.string x.cls,.string x.name,.slice AI x.args.length cI,.int .i64 x.jmp,.int .i64 x.hnd] 59 := by rw [← hW]; refine Box.at (w := (w.alloc _).alloc _) ?_; simp
 clear hW
 have f0 := bf.cell 0 rfl
 have f1 := bf.cell 1 rfl
 have f2 := bf.cell 2 rfl
 have f3 := bf.cell 3 rfl
 have f4 := bf.cell 4 rfl
 have f5 := bf.cell 5 rfl
 have f6 := bf.cell 6 rfl
 have fl := bf.lt
 have x0 := bx.cell 0 rfl
 have x1 := bx.cell 1 rfl
 have x2 := bx.cell 2 rfl
 have x3 := bx.cell 3 rfl
 have x4 := bx.cell 4 rfl
 have x5 := bx.cell 5 rfl
 have x6 := bx.cell 6 rfl
 have x7 := bx.cell 7 rfl
 have x8 := bx.cell 8 rfl
 have x9 := bx.cell 9 rfl
 have xl := bx.lt
 have h0 := bh.cell 0 rfl
 have hlh := bh.lt
 go_wp2_with fail
 refine (HI.out _ hb1).mono ?_
 rintro e w2 ⟨rfl,hq2⟩
 cases bi with
 | false =>
  go_wp2_with fail
  go_ret
  exact ⟨by rw [HB.out]; rfl,below_step hb1 hq2⟩
 | true =>
  go_wp2_with fail
  go_ret
  exact ⟨by rw [HB.out]; rfl,below_step hb1 hq2⟩
theorem refTypes_11 (cs : List Cls) (f : Fun) (x : Ins) (AH AV AC AI : Option Addr) (cH cV cC cI : Nat) (w : World) (H : Hid (TyH w cs f x AH AV AI cH)) (hn : Hid (NoKw cs)) (hop : x.op = 11) :
  Calls Tryz.prog 271 #[.agg #[.slice AH cs.length cH],.agg #[.string f.cls,.string f.name,.bool f.static,.int .i64 f.nparams,.slice AV f.vars.length cV,.string f.result,.slice AC f.code.length cC],.agg #[.int .i64 x.op,.int .i64 x.dst,.int .i64 x.a,.int .i64 x.b,.int .i64 x.n,.string x.cls,.string x.name,.slice AI x.args.length cI,.int .i64 x.jmp,.int .i64 x.hnd]] w fun e w' => e = .returned (.int .i64 (insT cs f.vars f.result x)) ∧ Below w.heap.size w w' := by
 obtain ⟨r,HR⟩ : ∃ r,Hid (r = insT cs f.vars f.result x) := ⟨_,Lib.hid rfl⟩
 rw [← HR.out]
 have e6 : (x.op == 6) = false := by rw [hop]; rfl
 have e15 : (x.op == 15) = false := by rw [hop]; rfl
 have e7 : (x.op == 7) = false := by rw [hop]; rfl
 have e8 : (x.op == 8) = false := by rw [hop]; rfl
 have e9 : (x.op == 9) = false := by rw [hop]; rfl
 have e10 : (x.op == 10) = false := by rw [hop]; rfl
 have e13 : (x.op == 13) = false := by rw [hop]; rfl
 have HM : Hid (∀ W,Below w.heap.size w W → Hid (TyH W cs f x AH AV AI cH)) := fun W hb => Lib.hid ⟨H.out.hl,H.out.hcc,H.out.hs.mono hb,H.out.hok,H.out.hlk,H.out.hv.mono hb,H.out.hvo,H.out.ha.mono hb,H.out.hla,H.out.hg,H.out.hxc,H.out.hxr⟩
 obtain ⟨bi,HBI⟩ : ∃ bi,Hid (bi = (isIntT (tyOf f.vars x.a))) := ⟨_,Lib.hid rfl⟩
 have HB : Hid (r = typed bi) := by show r = _; rw [HR.out,HBI.out]; simp [insT,hop] <;> rfl
 have HI := Lib.hid (fun W (h : Below w.heap.size w W) => refInts_11 cs f x AH AV AC AI cH cV cC cI W (HM.out W h) hn hop)
 rw [← HBI.out] at HI
 clear HR HBI hop
 go_enter Tryz.func271,Tryz.ntmps271
 go_upto_region 1 with fail
 generalize hW : World.alloc _ _ = W1 at *
 have hb1 : Below w.heap.size w W1 := by rw [← hW]; exact (by repeat (first | assumption | exact Below.refl _ _ | apply bw_alloc | apply bw_drew | apply bw_drewN | apply bw_later | apply bw_step))
 have bh : Box W1 w.heap.size [.slice AH cs.length cH] 29 := by rw [← hW]; exact ((Box.new _ _ _).alloc _).alloc _
 have bf : Box W1 (w.heap.size + 1) [.string f.cls,.string f.name,.bool f.static,.int .i64 f.nparams,.slice AV f.vars.length cV,.string f.result,.slice AC f.code.length cC] 42 := by rw [← hW]; exact Box.alloc (w := (w.alloc _).alloc _) (Box.at (w := w.alloc _) (by simp)) _
 have bx : Box W1 (w.heap.size + 2) [.int .i64 x.op,.int .i64 x.dst,.int .i64 x.a,.int .i64 x.b,.int .i64 x.n,.string x.cls,.string x.name,.slice AI x.args.length cI,.int .i64 x.jmp,.int .i64 x.hnd] 59 := by rw [← hW]; refine Box.at (w := (w.alloc _).alloc _) ?_; simp
 clear hW
 have f0 := bf.cell 0 rfl
 have f1 := bf.cell 1 rfl
 have f2 := bf.cell 2 rfl
 have f3 := bf.cell 3 rfl
 have f4 := bf.cell 4 rfl
 have f5 := bf.cell 5 rfl
 have f6 := bf.cell 6 rfl
 have fl := bf.lt
 have x0 := bx.cell 0 rfl
 have x1 := bx.cell 1 rfl
 have x2 := bx.cell 2 rfl
 have x3 := bx.cell 3 rfl
 have x4 := bx.cell 4 rfl
 have x5 := bx.cell 5 rfl
 have x6 := bx.cell 6 rfl
 have x7 := bx.cell 7 rfl
 have x8 := bx.cell 8 rfl
 have x9 := bx.cell 9 rfl
 have xl := bx.lt
 have h0 := bh.cell 0 rfl
 have hlh := bh.lt
 go_wp2_with fail
 refine (HI.out _ hb1).mono ?_
 rintro e w2 ⟨rfl,hq2⟩
 cases bi with
 | false =>
  go_wp2_with fail
  go_ret
  exact ⟨by rw [HB.out]; rfl,below_step hb1 hq2⟩
 | true =>
  go_wp2_with fail
  go_ret
  exact ⟨by rw [HB.out]; rfl,below_step hb1 hq2⟩
theorem refTypes_14 (cs : List Cls) (f : Fun) (x : Ins) (AH AV AC AI : Option Addr) (cH cV cC cI : Nat) (w : World) (H : Hid (TyH w cs f x AH AV AI cH)) (hn : Hid (NoKw cs)) (hop : x.op = 14) :
  Calls Tryz.prog 271 #[.agg #[.slice AH cs.length cH],.agg #[.string f.cls,.string f.name,.bool f.static,.int .i64 f.nparams,.slice AV f.vars.length cV,.string f.result,.slice AC f.code.length cC],.agg #[.int .i64 x.op,.int .i64 x.dst,.int .i64 x.a,.int .i64 x.b,.int .i64 x.n,.string x.cls,.string x.name,.slice AI x.args.length cI,.int .i64 x.jmp,.int .i64 x.hnd]] w fun e w' => e = .returned (.int .i64 (insT cs f.vars f.result x)) ∧ Below w.heap.size w w' := by
 obtain ⟨r,HR⟩ : ∃ r,Hid (r = insT cs f.vars f.result x) := ⟨_,Lib.hid rfl⟩
 rw [← HR.out]
 have e6 : (x.op == 6) = false := by rw [hop]; rfl
 have e15 : (x.op == 15) = false := by rw [hop]; rfl
 have e7 : (x.op == 7) = false := by rw [hop]; rfl
 have e8 : (x.op == 8) = false := by rw [hop]; rfl
 have e9 : (x.op == 9) = false := by rw [hop]; rfl
 have e10 : (x.op == 10) = false := by rw [hop]; rfl
 have e13 : (x.op == 13) = false := by rw [hop]; rfl
 have HM : Hid (∀ W,Below w.heap.size w W → Hid (TyH W cs f x AH AV AI cH)) := fun W hb => Lib.hid ⟨H.out.hl,H.out.hcc,H.out.hs.mono hb,H.out.hok,H.out.hlk,H.out.hv.mono hb,H.out.hvo,H.out.ha.mono hb,H.out.hla,H.out.hg,H.out.hxc,H.out.hxr⟩
 obtain ⟨bi,HBI⟩ : ∃ bi,Hid (bi = (!isIntT (tyOf f.vars x.a))) := ⟨_,Lib.hid rfl⟩
 have HB : Hid (r = typed bi) := by show r = _; rw [HR.out,HBI.out]; simp [insT,hop] <;> rfl
 have HI := Lib.hid (fun W (h : Below w.heap.size w W) => refInts_14 cs f x AH AV AC AI cH cV cC cI W (HM.out W h) hn hop)
 rw [← HBI.out] at HI
 clear HR HBI hop
 go_enter Tryz.func271,Tryz.ntmps271
 go_upto_region 1 with fail
 generalize hW : World.alloc _ _ = W1 at *
 have hb1 : Below w.heap.size w W1 := by rw [← hW]; exact (by repeat (first | assumption | exact Below.refl _ _ | apply bw_alloc | apply bw_drew | apply bw_drewN | apply bw_later | apply bw_step))
 have bh : Box W1 w.heap.size [.slice AH cs.length cH] 29 := by rw [← hW]; exact ((Box.new _ _ _).alloc _).alloc _
 have bf : Box W1 (w.heap.size + 1) [.string f.cls,.string f.name,.bool f.static,.int .i64 f.nparams,.slice AV f.vars.length cV,.string f.result,.slice AC f.code.length cC] 42 := by rw [← hW]; exact Box.alloc (w := (w.alloc _).alloc _) (Box.at (w := w.alloc _) (by simp)) _
 have bx : Box W1 (w.heap.size + 2) [.int .i64 x.op,.int .i64 x.dst,.int .i64 x.a,.int .i64 x.b,.int .i64 x.n,.string x.cls,.string x.name,.slice AI x.args.length cI,.int .i64 x.jmp,.int .i64 x.hnd] 59 := by rw [← hW]; refine Box.at (w := (w.alloc _).alloc _) ?_; simp
 clear hW
 have f0 := bf.cell 0 rfl
 have f1 := bf.cell 1 rfl
 have f2 := bf.cell 2 rfl
 have f3 := bf.cell 3 rfl
 have f4 := bf.cell 4 rfl
 have f5 := bf.cell 5 rfl
 have f6 := bf.cell 6 rfl
 have fl := bf.lt
 have x0 := bx.cell 0 rfl
 have x1 := bx.cell 1 rfl
 have x2 := bx.cell 2 rfl
 have x3 := bx.cell 3 rfl
 have x4 := bx.cell 4 rfl
 have x5 := bx.cell 5 rfl
 have x6 := bx.cell 6 rfl
 have x7 := bx.cell 7 rfl
 have x8 := bx.cell 8 rfl
 have x9 := bx.cell 9 rfl
 have xl := bx.lt
 have h0 := bh.cell 0 rfl
 have hlh := bh.lt
 go_wp2_with fail
 refine (HI.out _ hb1).mono ?_
 rintro e w2 ⟨rfl,hq2⟩
 cases bi with
 | false =>
  go_wp2_with fail
  go_ret
  exact ⟨by rw [HB.out]; rfl,below_step hb1 hq2⟩
 | true =>
  go_wp2_with fail
  go_ret
  exact ⟨by rw [HB.out]; rfl,below_step hb1 hq2⟩
theorem refTypes_4 (cs : List Cls) (f : Fun) (x : Ins) (AH AV AC AI : Option Addr) (cH cV cC cI : Nat) (w : World) (H : Hid (TyH w cs f x AH AV AI cH)) (hn : Hid (NoKw cs)) (hop : x.op = 4) :
  Calls Tryz.prog 271 #[.agg #[.slice AH cs.length cH],.agg #[.string f.cls,.string f.name,.bool f.static,.int .i64 f.nparams,.slice AV f.vars.length cV,.string f.result,.slice AC f.code.length cC],.agg #[.int .i64 x.op,.int .i64 x.dst,.int .i64 x.a,.int .i64 x.b,.int .i64 x.n,.string x.cls,.string x.name,.slice AI x.args.length cI,.int .i64 x.jmp,.int .i64 x.hnd]] w fun e w' => e = .returned (.int .i64 (insT cs f.vars f.result x)) ∧ Below w.heap.size w w' := by
 obtain ⟨r,HR⟩ : ∃ r,Hid (r = insT cs f.vars f.result x) := ⟨_,Lib.hid rfl⟩
 rw [← HR.out]
 have e6 : (x.op == 6) = false := by rw [hop]; rfl
 have e15 : (x.op == 15) = false := by rw [hop]; rfl
 have e7 : (x.op == 7) = false := by rw [hop]; rfl
 have e8 : (x.op == 8) = false := by rw [hop]; rfl
 have e9 : (x.op == 9) = false := by rw [hop]; rfl
 have e10 : (x.op == 10) = false := by rw [hop]; rfl
 have e13 : (x.op == 13) = false := by rw [hop]; rfl
 have HM : Hid (∀ W,Below w.heap.size w W → Hid (TyH W cs f x AH AV AI cH)) := fun W hb => Lib.hid ⟨H.out.hl,H.out.hcc,H.out.hs.mono hb,H.out.hok,H.out.hlk,H.out.hv.mono hb,H.out.hvo,H.out.ha.mono hb,H.out.hla,H.out.hg,H.out.hxc,H.out.hxr⟩
 obtain ⟨bi,HBI⟩ : ∃ bi,Hid (bi = (isIntT (tyOf f.vars x.dst) && (isIntT (tyOf f.vars x.a) && isIntT (tyOf f.vars x.b) || (x.n == 5) && !isIntT (tyOf f.vars x.a) && !isIntT (tyOf f.vars x.b)))) := ⟨_,Lib.hid rfl⟩
 have HB : Hid (r = typed bi) := by show r = _; rw [HR.out,HBI.out,← dec_beq x.n 5]; simp [insT,hop] <;> rfl
 have HI := Lib.hid (fun W (h : Below w.heap.size w W) => refInts_4 cs f x AH AV AC AI cH cV cC cI W (HM.out W h) hn hop)
 rw [← HBI.out] at HI
 clear HR HBI hop
 go_enter Tryz.func271,Tryz.ntmps271
 go_upto_region 1 with fail
 generalize hW : World.alloc _ _ = W1 at *
 have hb1 : Below w.heap.size w W1 := by rw [← hW]; exact (by repeat (first | assumption | exact Below.refl _ _ | apply bw_alloc | apply bw_drew | apply bw_drewN | apply bw_later | apply bw_step))
 have bh : Box W1 w.heap.size [.slice AH cs.length cH] 29 := by rw [← hW]; exact ((Box.new _ _ _).alloc _).alloc _
 have bf : Box W1 (w.heap.size + 1) [.string f.cls,.string f.name,.bool f.static,.int .i64 f.nparams,.slice AV f.vars.length cV,.string f.result,.slice AC f.code.length cC] 42 := by rw [← hW]; exact Box.alloc (w := (w.alloc _).alloc _) (Box.at (w := w.alloc _) (by simp)) _
 have bx : Box W1 (w.heap.size + 2) [.int .i64 x.op,.int .i64 x.dst,.int .i64 x.a,.int .i64 x.b,.int .i64 x.n,.string x.cls,.string x.name,.slice AI x.args.length cI,.int .i64 x.jmp,.int .i64 x.hnd] 59 := by rw [← hW]; refine Box.at (w := (w.alloc _).alloc _) ?_; simp
 clear hW
 have f0 := bf.cell 0 rfl
 have f1 := bf.cell 1 rfl
 have f2 := bf.cell 2 rfl
 have f3 := bf.cell 3 rfl
 have f4 := bf.cell 4 rfl
 have f5 := bf.cell 5 rfl
 have f6 := bf.cell 6 rfl
 have fl := bf.lt
 have x0 := bx.cell 0 rfl
 have x1 := bx.cell 1 rfl
 have x2 := bx.cell 2 rfl
 have x3 := bx.cell 3 rfl
 have x4 := bx.cell 4 rfl
 have x5 := bx.cell 5 rfl
 have x6 := bx.cell 6 rfl
 have x7 := bx.cell 7 rfl
 have x8 := bx.cell 8 rfl
 have x9 := bx.cell 9 rfl
 have xl := bx.lt
 have h0 := bh.cell 0 rfl
 have hlh := bh.lt
 go_wp2_with fail
 refine (HI.out _ hb1).mono ?_
 rintro e w2 ⟨rfl,hq2⟩
 cases bi with
 | false =>
  go_wp2_with fail
  go_ret
  exact ⟨by rw [HB.out]; rfl,below_step hb1 hq2⟩
 | true =>
  go_wp2_with fail
  go_ret
  exact ⟨by rw [HB.out]; rfl,below_step hb1 hq2⟩
theorem refTypes_6 (cs : List Cls) (f : Fun) (x : Ins) (AH AV AC AI : Option Addr) (cH cV cC cI : Nat) (w : World) (H : Hid (TyH w cs f x AH AV AI cH)) (hn : Hid (NoKw cs)) (hop : x.op = 6) :
  Calls Tryz.prog 271 #[.agg #[.slice AH cs.length cH],.agg #[.string f.cls,.string f.name,.bool f.static,.int .i64 f.nparams,.slice AV f.vars.length cV,.string f.result,.slice AC f.code.length cC],.agg #[.int .i64 x.op,.int .i64 x.dst,.int .i64 x.a,.int .i64 x.b,.int .i64 x.n,.string x.cls,.string x.name,.slice AI x.args.length cI,.int .i64 x.jmp,.int .i64 x.hnd]] w fun e w' => e = .returned (.int .i64 (insT cs f.vars f.result x)) ∧ Below w.heap.size w w' := by
 obtain ⟨r,HR⟩ : ∃ r,Hid (r = insT cs f.vars f.result x) := ⟨_,Lib.hid rfl⟩
 rw [← HR.out]
 have e6 : (x.op == 6) = true := by rw [hop]; rfl
 have e15 : (x.op == 15) = false := by rw [hop]; rfl
 have e7 : (x.op == 7) = false := by rw [hop]; rfl
 have e8 : (x.op == 8) = false := by rw [hop]; rfl
 have e9 : (x.op == 9) = false := by rw [hop]; rfl
 have e10 : (x.op == 10) = false := by rw [hop]; rfl
 have e13 : (x.op == 13) = false := by rw [hop]; rfl
 have HM : Hid (∀ W,Below w.heap.size w W → Hid (TyH W cs f x AH AV AI cH)) := fun W hb => Lib.hid ⟨H.out.hl,H.out.hcc,H.out.hs.mono hb,H.out.hok,H.out.hlk,H.out.hv.mono hb,H.out.hvo,H.out.ha.mono hb,H.out.hla,H.out.hg,H.out.hxc,H.out.hxr⟩
 have HT : Hid (r = if fnd cs x.cls < 0 then 6 else typed (fitsB cs x.cls (tyOf f.vars x.dst))) := by show r = _; rw [HR.out]; simp [insT,hop] <;> rfl
 have hvd := H.out.hg.dst (by rw [hop]; rfl) (by rw [hop]; rfl)
 obtain ⟨bV,oV,rfl⟩ := avC H.out.hv hvd
 obtain ⟨kd,hkd,hkdl,hkdI,Td⟩ := tyC H.out.hv hvd
 replace hkd := Lib.hid hkd
 replace Td := Lib.hid Td
 have HIC := Lib.hid (fun W (h : Below w.heap.size w W) => refIsClass_any AH cH cs x.cls W H.out.hl (H.out.hs.mono h))
 have HFI := Lib.hid (fun W (h : Below w.heap.size w W) => refFits_any AH cH cs x.cls (tyOf f.vars x.dst) W H.out.hl (H.out.hs.mono h) hn)
 generalize fitsB cs x.cls (tyOf f.vars x.dst) = fb at *
 generalize tyOf f.vars x.dst = td at *
 have HQ : Hid (decide (0 ≤ fnd cs x.cls) = false → r = 6) := fun h => by
  have := of_decide_eq_false h
  rw [HT.out,if_pos (by omega)]
 have HQ2 : Hid (decide (0 ≤ fnd cs x.cls) = true → r = typed fb) := fun h => by
  have := of_decide_eq_true h
  rw [HT.out,if_neg (by omega)]
 generalize decide (0 ≤ fnd cs x.cls) = q1 at *
 clear HR HT hop
 go_enter Tryz.func271,Tryz.ntmps271
 go_upto_region 1 with fail
 generalize hW : World.alloc _ _ = W1 at *
 have hb1 : Below w.heap.size w W1 := by rw [← hW]; exact (by repeat (first | assumption | exact Below.refl _ _ | apply bw_alloc | apply bw_drew | apply bw_drewN | apply bw_later | apply bw_step))
 have bh : Box W1 w.heap.size [.slice AH cs.length cH] 29 := by rw [← hW]; exact ((Box.new _ _ _).alloc _).alloc _
 have bf : Box W1 (w.heap.size + 1) [.string f.cls,.string f.name,.bool f.static,.int .i64 f.nparams,.slice (some ⟨bV,oV,none⟩) f.vars.length cV,.string f.result,.slice AC f.code.length cC] 42 := by rw [← hW]; exact Box.alloc (w := (w.alloc _).alloc _) (Box.at (w := w.alloc _) (by simp)) _
 have bx : Box W1 (w.heap.size + 2) [.int .i64 x.op,.int .i64 x.dst,.int .i64 x.a,.int .i64 x.b,.int .i64 x.n,.string x.cls,.string x.name,.slice AI x.args.length cI,.int .i64 x.jmp,.int .i64 x.hnd] 59 := by rw [← hW]; refine Box.at (w := (w.alloc _).alloc _) ?_; simp
 clear hW
 have f0 := bf.cell 0 rfl
 have f1 := bf.cell 1 rfl
 have f2 := bf.cell 2 rfl
 have f3 := bf.cell 3 rfl
 have f4 := bf.cell 4 rfl
 have f5 := bf.cell 5 rfl
 have f6 := bf.cell 6 rfl
 have fl := bf.lt
 have x0 := bx.cell 0 rfl
 have x1 := bx.cell 1 rfl
 have x2 := bx.cell 2 rfl
 have x3 := bx.cell 3 rfl
 have x4 := bx.cell 4 rfl
 have x5 := bx.cell 5 rfl
 have x6 := bx.cell 6 rfl
 have x7 := bx.cell 7 rfl
 have x8 := bx.cell 8 rfl
 have x9 := bx.cell 9 rfl
 have xl := bx.lt
 have h0 := bh.cell 0 rfl
 have hlh := bh.lt
 go_wp2_with fail
 refine (HIC.out _ hb1).mono ?_
 rintro e w2 ⟨rfl,hq2⟩
 have hb2 := below_step hb1 hq2
 have bh2 := bh.mono hq2
 have bf2 := bf.mono hq2
 have bx2 := bx.mono hq2
 clear f0 f1 f2 f3 f4 f5 f6 fl x0 x1 x2 x3 x4 x5 x6 x7 x8 x9 xl h0 hlh bh bf bx
 cases q1 with
 | false =>
  have HB := Lib.hid (HQ.out rfl)
  go_wp2_with fail
  go_ret
  exact ⟨by rw [HB.out]; rfl,hb2⟩
 | true =>
 have HB := Lib.hid (HQ2.out rfl)
 have h0 := bh2.cell 0 rfl
 have hlh := bh2.lt
 have f4 := bf2.cell 4 rfl
 have fl := bf2.lt
 have x1 := bx2.cell 1 rfl
 have x5 := bx2.cell 5 rfl
 have xl := bx2.lt
 rw [hkd.out] at x1
 obtain ⟨eVd,cd⟩ := Td.out _ hb2
 have HC : Hid (∀ y : Later w2,Calls Tryz.prog 307 #[.agg #[.slice AH cs.length cH],.string x.cls,.string td] y.W fun e w' => e = .returned (.bool fb) ∧ Below y.W.heap.size y.W w') := fun y => HFI.out _ (below_step hb2 y.h)
 go_upto_region 6 with fail
 refine wp_region_later (by kernel_rfl) (by kernel_rfl) ?_
 try simp only [List.append_eq,List.cons_append,List.nil_append]
 repeat (go_big_quiet_step (first | (go_at_call 307; with_reducible exact Calls.later (HC.out _))))
 refine wpQuiet_nil ?_
 rintro _ ⟨y,rfl⟩
 cases fb with
 | false =>
  go_wp2_with fail
  go_ret
  exact ⟨by rw [HB.out]; rfl,below_step hb2 y.h⟩
 | true =>
  go_wp2_with fail
  go_ret
  exact ⟨by rw [HB.out]; rfl,below_step hb2 y.h⟩
theorem refTypes_15 (cs : List Cls) (f : Fun) (x : Ins) (AH AV AC AI : Option Addr) (cH cV cC cI : Nat) (w : World) (H : Hid (TyH w cs f x AH AV AI cH)) (hn : Hid (NoKw cs)) (hop : x.op = 15) :
  Calls Tryz.prog 271 #[.agg #[.slice AH cs.length cH],.agg #[.string f.cls,.string f.name,.bool f.static,.int .i64 f.nparams,.slice AV f.vars.length cV,.string f.result,.slice AC f.code.length cC],.agg #[.int .i64 x.op,.int .i64 x.dst,.int .i64 x.a,.int .i64 x.b,.int .i64 x.n,.string x.cls,.string x.name,.slice AI x.args.length cI,.int .i64 x.jmp,.int .i64 x.hnd]] w fun e w' => e = .returned (.int .i64 (insT cs f.vars f.result x)) ∧ Below w.heap.size w w' := by
 obtain ⟨r,HR⟩ : ∃ r,Hid (r = insT cs f.vars f.result x) := ⟨_,Lib.hid rfl⟩
 rw [← HR.out]
 have e6 : (x.op == 6) = false := by rw [hop]; rfl
 have e15 : (x.op == 15) = true := by rw [hop]; rfl
 have e7 : (x.op == 7) = false := by rw [hop]; rfl
 have e8 : (x.op == 8) = false := by rw [hop]; rfl
 have e9 : (x.op == 9) = false := by rw [hop]; rfl
 have e10 : (x.op == 10) = false := by rw [hop]; rfl
 have e13 : (x.op == 13) = false := by rw [hop]; rfl
 have HM : Hid (∀ W,Below w.heap.size w W → Hid (TyH W cs f x AH AV AI cH)) := fun W hb => Lib.hid ⟨H.out.hl,H.out.hcc,H.out.hs.mono hb,H.out.hok,H.out.hlk,H.out.hv.mono hb,H.out.hvo,H.out.ha.mono hb,H.out.hla,H.out.hg,H.out.hxc,H.out.hxr⟩
 have HT : Hid (r = if fnd cs x.cls < 0 then 6 else typed (fitsB cs x.cls (tyOf f.vars x.dst))) := by show r = _; rw [HR.out]; simp [insT,hop] <;> rfl
 have hvd := H.out.hg.dst (by rw [hop]; rfl) (by rw [hop]; rfl)
 obtain ⟨bV,oV,rfl⟩ := avC H.out.hv hvd
 obtain ⟨kd,hkd,hkdl,hkdI,Td⟩ := tyC H.out.hv hvd
 replace hkd := Lib.hid hkd
 replace Td := Lib.hid Td
 have HIC := Lib.hid (fun W (h : Below w.heap.size w W) => refIsClass_any AH cH cs x.cls W H.out.hl (H.out.hs.mono h))
 have HFI := Lib.hid (fun W (h : Below w.heap.size w W) => refFits_any AH cH cs x.cls (tyOf f.vars x.dst) W H.out.hl (H.out.hs.mono h) hn)
 generalize fitsB cs x.cls (tyOf f.vars x.dst) = fb at *
 generalize tyOf f.vars x.dst = td at *
 have HQ : Hid (decide (0 ≤ fnd cs x.cls) = false → r = 6) := fun h => by
  have := of_decide_eq_false h
  rw [HT.out,if_pos (by omega)]
 have HQ2 : Hid (decide (0 ≤ fnd cs x.cls) = true → r = typed fb) := fun h => by
  have := of_decide_eq_true h
  rw [HT.out,if_neg (by omega)]
 generalize decide (0 ≤ fnd cs x.cls) = q1 at *
 clear HR HT hop
 go_enter Tryz.func271,Tryz.ntmps271
 go_upto_region 1 with fail
 generalize hW : World.alloc _ _ = W1 at *
 have hb1 : Below w.heap.size w W1 := by rw [← hW]; exact (by repeat (first | assumption | exact Below.refl _ _ | apply bw_alloc | apply bw_drew | apply bw_drewN | apply bw_later | apply bw_step))
 have bh : Box W1 w.heap.size [.slice AH cs.length cH] 29 := by rw [← hW]; exact ((Box.new _ _ _).alloc _).alloc _
 have bf : Box W1 (w.heap.size + 1) [.string f.cls,.string f.name,.bool f.static,.int .i64 f.nparams,.slice (some ⟨bV,oV,none⟩) f.vars.length cV,.string f.result,.slice AC f.code.length cC] 42 := by rw [← hW]; exact Box.alloc (w := (w.alloc _).alloc _) (Box.at (w := w.alloc _) (by simp)) _
 have bx : Box W1 (w.heap.size + 2) [.int .i64 x.op,.int .i64 x.dst,.int .i64 x.a,.int .i64 x.b,.int .i64 x.n,.string x.cls,.string x.name,.slice AI x.args.length cI,.int .i64 x.jmp,.int .i64 x.hnd] 59 := by rw [← hW]; refine Box.at (w := (w.alloc _).alloc _) ?_; simp
 clear hW
 have f0 := bf.cell 0 rfl
 have f1 := bf.cell 1 rfl
 have f2 := bf.cell 2 rfl
 have f3 := bf.cell 3 rfl
 have f4 := bf.cell 4 rfl
 have f5 := bf.cell 5 rfl
 have f6 := bf.cell 6 rfl
 have fl := bf.lt
 have x0 := bx.cell 0 rfl
 have x1 := bx.cell 1 rfl
 have x2 := bx.cell 2 rfl
 have x3 := bx.cell 3 rfl
 have x4 := bx.cell 4 rfl
 have x5 := bx.cell 5 rfl
 have x6 := bx.cell 6 rfl
 have x7 := bx.cell 7 rfl
 have x8 := bx.cell 8 rfl
 have x9 := bx.cell 9 rfl
 have xl := bx.lt
 have h0 := bh.cell 0 rfl
 have hlh := bh.lt
 go_wp2_with fail
 refine (HIC.out _ hb1).mono ?_
 rintro e w2 ⟨rfl,hq2⟩
 have hb2 := below_step hb1 hq2
 have bh2 := bh.mono hq2
 have bf2 := bf.mono hq2
 have bx2 := bx.mono hq2
 clear f0 f1 f2 f3 f4 f5 f6 fl x0 x1 x2 x3 x4 x5 x6 x7 x8 x9 xl h0 hlh bh bf bx
 cases q1 with
 | false =>
  have HB := Lib.hid (HQ.out rfl)
  go_wp2_with fail
  go_ret
  exact ⟨by rw [HB.out]; rfl,hb2⟩
 | true =>
 have HB := Lib.hid (HQ2.out rfl)
 have h0 := bh2.cell 0 rfl
 have hlh := bh2.lt
 have f4 := bf2.cell 4 rfl
 have fl := bf2.lt
 have x1 := bx2.cell 1 rfl
 have x5 := bx2.cell 5 rfl
 have xl := bx2.lt
 rw [hkd.out] at x1
 obtain ⟨eVd,cd⟩ := Td.out _ hb2
 have HC : Hid (∀ y : Later w2,Calls Tryz.prog 307 #[.agg #[.slice AH cs.length cH],.string x.cls,.string td] y.W fun e w' => e = .returned (.bool fb) ∧ Below y.W.heap.size y.W w') := fun y => HFI.out _ (below_step hb2 y.h)
 go_upto_region 6 with fail
 refine wp_region_later (by kernel_rfl) (by kernel_rfl) ?_
 try simp only [List.append_eq,List.cons_append,List.nil_append]
 repeat (go_big_quiet_step (first | (go_at_call 307; with_reducible exact Calls.later (HC.out _))))
 refine wpQuiet_nil ?_
 rintro _ ⟨y,rfl⟩
 cases fb with
 | false =>
  go_wp2_with fail
  go_ret
  exact ⟨by rw [HB.out]; rfl,below_step hb2 y.h⟩
 | true =>
  go_wp2_with fail
  go_ret
  exact ⟨by rw [HB.out]; rfl,below_step hb2 y.h⟩
theorem refTypes_7 (cs : List Cls) (f : Fun) (x : Ins) (AH AV AC AI : Option Addr) (cH cV cC cI : Nat) (w : World) (H : Hid (TyH w cs f x AH AV AI cH)) (hn : Hid (NoKw cs)) (hop : x.op = 7) :
  Calls Tryz.prog 271 #[.agg #[.slice AH cs.length cH],.agg #[.string f.cls,.string f.name,.bool f.static,.int .i64 f.nparams,.slice AV f.vars.length cV,.string f.result,.slice AC f.code.length cC],.agg #[.int .i64 x.op,.int .i64 x.dst,.int .i64 x.a,.int .i64 x.b,.int .i64 x.n,.string x.cls,.string x.name,.slice AI x.args.length cI,.int .i64 x.jmp,.int .i64 x.hnd]] w fun e w' => e = .returned (.int .i64 (insT cs f.vars f.result x)) ∧ Below w.heap.size w w' := by
 obtain ⟨r,HR⟩ : ∃ r,Hid (r = insT cs f.vars f.result x) := ⟨_,Lib.hid rfl⟩
 rw [← HR.out]
 have e6 : (x.op == 6) = false := by rw [hop]; rfl
 have e15 : (x.op == 15) = false := by rw [hop]; rfl
 have e7 : (x.op == 7) = true := by rw [hop]; rfl
 have e8 : (x.op == 8) = false := by rw [hop]; rfl
 have e9 : (x.op == 9) = false := by rw [hop]; rfl
 have e10 : (x.op == 10) = false := by rw [hop]; rfl
 have e13 : (x.op == 13) = false := by rw [hop]; rfl
 have HM : Hid (∀ W,Below w.heap.size w W → Hid (TyH W cs f x AH AV AI cH)) := fun W hb => Lib.hid ⟨H.out.hl,H.out.hcc,H.out.hs.mono hb,H.out.hok,H.out.hlk,H.out.hv.mono hb,H.out.hvo,H.out.ha.mono hb,H.out.hla,H.out.hg,H.out.hxc,H.out.hxr⟩
 have HT : Hid (r = fieldE cs f.vars x) := by show r = _; rw [HR.out]; simp [insT,hop] <;> rfl
 have hva := H.out.hg.va (by rw [hop]; rfl) (by rw [hop]; decide)
 have hvo := H.out.hg.dst (by rw [hop]; rfl) (by rw [hop]; rfl)
 have HA := Lib.hid (fun W (h : Below w.heap.size w W) => refAccess_7 cs f x AH AV AC AI cH cV cC cI W (HM.out W h) hn hop hva hvo)
 clear HR hop
 go_enter Tryz.func271,Tryz.ntmps271
 go_upto_region 1 with fail
 generalize hW : World.alloc _ _ = W1 at *
 have hb1 : Below w.heap.size w W1 := by rw [← hW]; exact (by repeat (first | assumption | exact Below.refl _ _ | apply bw_alloc | apply bw_drew | apply bw_drewN | apply bw_later | apply bw_step))
 have bh : Box W1 w.heap.size [.slice AH cs.length cH] 29 := by rw [← hW]; exact ((Box.new _ _ _).alloc _).alloc _
 have bf : Box W1 (w.heap.size + 1) [.string f.cls,.string f.name,.bool f.static,.int .i64 f.nparams,.slice AV f.vars.length cV,.string f.result,.slice AC f.code.length cC] 42 := by rw [← hW]; exact Box.alloc (w := (w.alloc _).alloc _) (Box.at (w := w.alloc _) (by simp)) _
 have bx : Box W1 (w.heap.size + 2) [.int .i64 x.op,.int .i64 x.dst,.int .i64 x.a,.int .i64 x.b,.int .i64 x.n,.string x.cls,.string x.name,.slice AI x.args.length cI,.int .i64 x.jmp,.int .i64 x.hnd] 59 := by rw [← hW]; refine Box.at (w := (w.alloc _).alloc _) ?_; simp
 clear hW
 have f0 := bf.cell 0 rfl
 have f1 := bf.cell 1 rfl
 have f2 := bf.cell 2 rfl
 have f3 := bf.cell 3 rfl
 have f4 := bf.cell 4 rfl
 have f5 := bf.cell 5 rfl
 have f6 := bf.cell 6 rfl
 have fl := bf.lt
 have x0 := bx.cell 0 rfl
 have x1 := bx.cell 1 rfl
 have x2 := bx.cell 2 rfl
 have x3 := bx.cell 3 rfl
 have x4 := bx.cell 4 rfl
 have x5 := bx.cell 5 rfl
 have x6 := bx.cell 6 rfl
 have x7 := bx.cell 7 rfl
 have x8 := bx.cell 8 rfl
 have x9 := bx.cell 9 rfl
 have xl := bx.lt
 have h0 := bh.cell 0 rfl
 have hlh := bh.lt
 go_wp2_with fail
 refine (HA.out _ hb1).mono ?_
 rintro e w2 ⟨rfl,hq2⟩
 go_wp2_with fail
 go_ret
 exact ⟨by rw [HT.out]; rfl,below_step hb1 hq2⟩
theorem refTypes_8 (cs : List Cls) (f : Fun) (x : Ins) (AH AV AC AI : Option Addr) (cH cV cC cI : Nat) (w : World) (H : Hid (TyH w cs f x AH AV AI cH)) (hn : Hid (NoKw cs)) (hop : x.op = 8) :
  Calls Tryz.prog 271 #[.agg #[.slice AH cs.length cH],.agg #[.string f.cls,.string f.name,.bool f.static,.int .i64 f.nparams,.slice AV f.vars.length cV,.string f.result,.slice AC f.code.length cC],.agg #[.int .i64 x.op,.int .i64 x.dst,.int .i64 x.a,.int .i64 x.b,.int .i64 x.n,.string x.cls,.string x.name,.slice AI x.args.length cI,.int .i64 x.jmp,.int .i64 x.hnd]] w fun e w' => e = .returned (.int .i64 (insT cs f.vars f.result x)) ∧ Below w.heap.size w w' := by
 obtain ⟨r,HR⟩ : ∃ r,Hid (r = insT cs f.vars f.result x) := ⟨_,Lib.hid rfl⟩
 rw [← HR.out]
 have e6 : (x.op == 6) = false := by rw [hop]; rfl
 have e15 : (x.op == 15) = false := by rw [hop]; rfl
 have e7 : (x.op == 7) = false := by rw [hop]; rfl
 have e8 : (x.op == 8) = true := by rw [hop]; rfl
 have e9 : (x.op == 9) = false := by rw [hop]; rfl
 have e10 : (x.op == 10) = false := by rw [hop]; rfl
 have e13 : (x.op == 13) = false := by rw [hop]; rfl
 have HM : Hid (∀ W,Below w.heap.size w W → Hid (TyH W cs f x AH AV AI cH)) := fun W hb => Lib.hid ⟨H.out.hl,H.out.hcc,H.out.hs.mono hb,H.out.hok,H.out.hlk,H.out.hv.mono hb,H.out.hvo,H.out.ha.mono hb,H.out.hla,H.out.hg,H.out.hxc,H.out.hxr⟩
 have HT : Hid (r = fieldE cs f.vars x) := by show r = _; rw [HR.out]; simp [insT,hop] <;> rfl
 have hva := H.out.hg.va (by rw [hop]; rfl) (by rw [hop]; decide)
 have hvo := H.out.hg.b (by rw [hop]; rfl)
 have HA := Lib.hid (fun W (h : Below w.heap.size w W) => refAccess_8 cs f x AH AV AC AI cH cV cC cI W (HM.out W h) hn hop hva hvo)
 clear HR hop
 go_enter Tryz.func271,Tryz.ntmps271
 go_upto_region 1 with fail
 generalize hW : World.alloc _ _ = W1 at *
 have hb1 : Below w.heap.size w W1 := by rw [← hW]; exact (by repeat (first | assumption | exact Below.refl _ _ | apply bw_alloc | apply bw_drew | apply bw_drewN | apply bw_later | apply bw_step))
 have bh : Box W1 w.heap.size [.slice AH cs.length cH] 29 := by rw [← hW]; exact ((Box.new _ _ _).alloc _).alloc _
 have bf : Box W1 (w.heap.size + 1) [.string f.cls,.string f.name,.bool f.static,.int .i64 f.nparams,.slice AV f.vars.length cV,.string f.result,.slice AC f.code.length cC] 42 := by rw [← hW]; exact Box.alloc (w := (w.alloc _).alloc _) (Box.at (w := w.alloc _) (by simp)) _
 have bx : Box W1 (w.heap.size + 2) [.int .i64 x.op,.int .i64 x.dst,.int .i64 x.a,.int .i64 x.b,.int .i64 x.n,.string x.cls,.string x.name,.slice AI x.args.length cI,.int .i64 x.jmp,.int .i64 x.hnd] 59 := by rw [← hW]; refine Box.at (w := (w.alloc _).alloc _) ?_; simp
 clear hW
 have f0 := bf.cell 0 rfl
 have f1 := bf.cell 1 rfl
 have f2 := bf.cell 2 rfl
 have f3 := bf.cell 3 rfl
 have f4 := bf.cell 4 rfl
 have f5 := bf.cell 5 rfl
 have f6 := bf.cell 6 rfl
 have fl := bf.lt
 have x0 := bx.cell 0 rfl
 have x1 := bx.cell 1 rfl
 have x2 := bx.cell 2 rfl
 have x3 := bx.cell 3 rfl
 have x4 := bx.cell 4 rfl
 have x5 := bx.cell 5 rfl
 have x6 := bx.cell 6 rfl
 have x7 := bx.cell 7 rfl
 have x8 := bx.cell 8 rfl
 have x9 := bx.cell 9 rfl
 have xl := bx.lt
 have h0 := bh.cell 0 rfl
 have hlh := bh.lt
 go_wp2_with fail
 refine (HA.out _ hb1).mono ?_
 rintro e w2 ⟨rfl,hq2⟩
 go_wp2_with fail
 go_ret
 exact ⟨by rw [HT.out]; rfl,below_step hb1 hq2⟩
theorem refTypes_9 (cs : List Cls) (f : Fun) (x : Ins) (AH AV AC AI : Option Addr) (cH cV cC cI : Nat) (w : World) (H : Hid (TyH w cs f x AH AV AI cH)) (hn : Hid (NoKw cs)) (hop : x.op = 9) :
  Calls Tryz.prog 271 #[.agg #[.slice AH cs.length cH],.agg #[.string f.cls,.string f.name,.bool f.static,.int .i64 f.nparams,.slice AV f.vars.length cV,.string f.result,.slice AC f.code.length cC],.agg #[.int .i64 x.op,.int .i64 x.dst,.int .i64 x.a,.int .i64 x.b,.int .i64 x.n,.string x.cls,.string x.name,.slice AI x.args.length cI,.int .i64 x.jmp,.int .i64 x.hnd]] w fun e w' => e = .returned (.int .i64 (insT cs f.vars f.result x)) ∧ Below w.heap.size w w' := by
 obtain ⟨r,HR⟩ : ∃ r,Hid (r = insT cs f.vars f.result x) := ⟨_,Lib.hid rfl⟩
 rw [← HR.out]
 have e6 : (x.op == 6) = false := by rw [hop]; rfl
 have e15 : (x.op == 15) = false := by rw [hop]; rfl
 have e7 : (x.op == 7) = false := by rw [hop]; rfl
 have e8 : (x.op == 8) = false := by rw [hop]; rfl
 have e9 : (x.op == 9) = true := by rw [hop]; rfl
 have e10 : (x.op == 10) = false := by rw [hop]; rfl
 have e13 : (x.op == 13) = false := by rw [hop]; rfl
 have HM : Hid (∀ W,Below w.heap.size w W → Hid (TyH W cs f x AH AV AI cH)) := fun W hb => Lib.hid ⟨H.out.hl,H.out.hcc,H.out.hs.mono hb,H.out.hok,H.out.hlk,H.out.hv.mono hb,H.out.hvo,H.out.ha.mono hb,H.out.hla,H.out.hg,H.out.hxc,H.out.hxr⟩
 have HA := Lib.hid (fun W (h : Below w.heap.size w W) => refCall_9 cs f x AH AV AC AI cH cV cC cI W (HM.out W h) hn hop)
 clear hop
 go_enter Tryz.func271,Tryz.ntmps271
 go_upto_region 1 with fail
 generalize hW : World.alloc _ _ = W1 at *
 have hb1 : Below w.heap.size w W1 := by rw [← hW]; exact (by repeat (first | assumption | exact Below.refl _ _ | apply bw_alloc | apply bw_drew | apply bw_drewN | apply bw_later | apply bw_step))
 have bh : Box W1 w.heap.size [.slice AH cs.length cH] 29 := by rw [← hW]; exact ((Box.new _ _ _).alloc _).alloc _
 have bf : Box W1 (w.heap.size + 1) [.string f.cls,.string f.name,.bool f.static,.int .i64 f.nparams,.slice AV f.vars.length cV,.string f.result,.slice AC f.code.length cC] 42 := by rw [← hW]; exact Box.alloc (w := (w.alloc _).alloc _) (Box.at (w := w.alloc _) (by simp)) _
 have bx : Box W1 (w.heap.size + 2) [.int .i64 x.op,.int .i64 x.dst,.int .i64 x.a,.int .i64 x.b,.int .i64 x.n,.string x.cls,.string x.name,.slice AI x.args.length cI,.int .i64 x.jmp,.int .i64 x.hnd] 59 := by rw [← hW]; refine Box.at (w := (w.alloc _).alloc _) ?_; simp
 clear hW
 have f0 := bf.cell 0 rfl
 have f1 := bf.cell 1 rfl
 have f2 := bf.cell 2 rfl
 have f3 := bf.cell 3 rfl
 have f4 := bf.cell 4 rfl
 have f5 := bf.cell 5 rfl
 have f6 := bf.cell 6 rfl
 have fl := bf.lt
 have x0 := bx.cell 0 rfl
 have x1 := bx.cell 1 rfl
 have x2 := bx.cell 2 rfl
 have x3 := bx.cell 3 rfl
 have x4 := bx.cell 4 rfl
 have x5 := bx.cell 5 rfl
 have x6 := bx.cell 6 rfl
 have x7 := bx.cell 7 rfl
 have x8 := bx.cell 8 rfl
 have x9 := bx.cell 9 rfl
 have xl := bx.lt
 have h0 := bh.cell 0 rfl
 have hlh := bh.lt
 go_wp2_with fail
 refine (HA.out _ hb1).mono ?_
 rintro e w2 ⟨rfl,hq2⟩
 go_wp2_with fail
 go_ret
 exact ⟨by rw [HR.out]; rfl,below_step hb1 hq2⟩
theorem refTypes_10 (cs : List Cls) (f : Fun) (x : Ins) (AH AV AC AI : Option Addr) (cH cV cC cI : Nat) (w : World) (H : Hid (TyH w cs f x AH AV AI cH)) (hn : Hid (NoKw cs)) (hop : x.op = 10) :
  Calls Tryz.prog 271 #[.agg #[.slice AH cs.length cH],.agg #[.string f.cls,.string f.name,.bool f.static,.int .i64 f.nparams,.slice AV f.vars.length cV,.string f.result,.slice AC f.code.length cC],.agg #[.int .i64 x.op,.int .i64 x.dst,.int .i64 x.a,.int .i64 x.b,.int .i64 x.n,.string x.cls,.string x.name,.slice AI x.args.length cI,.int .i64 x.jmp,.int .i64 x.hnd]] w fun e w' => e = .returned (.int .i64 (insT cs f.vars f.result x)) ∧ Below w.heap.size w w' := by
 obtain ⟨r,HR⟩ : ∃ r,Hid (r = insT cs f.vars f.result x) := ⟨_,Lib.hid rfl⟩
 rw [← HR.out]
 have e6 : (x.op == 6) = false := by rw [hop]; rfl
 have e15 : (x.op == 15) = false := by rw [hop]; rfl
 have e7 : (x.op == 7) = false := by rw [hop]; rfl
 have e8 : (x.op == 8) = false := by rw [hop]; rfl
 have e9 : (x.op == 9) = false := by rw [hop]; rfl
 have e10 : (x.op == 10) = true := by rw [hop]; rfl
 have e13 : (x.op == 13) = false := by rw [hop]; rfl
 have HM : Hid (∀ W,Below w.heap.size w W → Hid (TyH W cs f x AH AV AI cH)) := fun W hb => Lib.hid ⟨H.out.hl,H.out.hcc,H.out.hs.mono hb,H.out.hok,H.out.hlk,H.out.hv.mono hb,H.out.hvo,H.out.ha.mono hb,H.out.hla,H.out.hg,H.out.hxc,H.out.hxr⟩
 have HA := Lib.hid (fun W (h : Below w.heap.size w W) => refCall_10 cs f x AH AV AC AI cH cV cC cI W (HM.out W h) hn hop)
 clear hop
 go_enter Tryz.func271,Tryz.ntmps271
 go_upto_region 1 with fail
 generalize hW : World.alloc _ _ = W1 at *
 have hb1 : Below w.heap.size w W1 := by rw [← hW]; exact (by repeat (first | assumption | exact Below.refl _ _ | apply bw_alloc | apply bw_drew | apply bw_drewN | apply bw_later | apply bw_step))
 have bh : Box W1 w.heap.size [.slice AH cs.length cH] 29 := by rw [← hW]; exact ((Box.new _ _ _).alloc _).alloc _
 have bf : Box W1 (w.heap.size + 1) [.string f.cls,.string f.name,.bool f.static,.int .i64 f.nparams,.slice AV f.vars.length cV,.string f.result,.slice AC f.code.length cC] 42 := by rw [← hW]; exact Box.alloc (w := (w.alloc _).alloc _) (Box.at (w := w.alloc _) (by simp)) _
 have bx : Box W1 (w.heap.size + 2) [.int .i64 x.op,.int .i64 x.dst,.int .i64 x.a,.int .i64 x.b,.int .i64 x.n,.string x.cls,.string x.name,.slice AI x.args.length cI,.int .i64 x.jmp,.int .i64 x.hnd] 59 := by rw [← hW]; refine Box.at (w := (w.alloc _).alloc _) ?_; simp
 clear hW
 have f0 := bf.cell 0 rfl
 have f1 := bf.cell 1 rfl
 have f2 := bf.cell 2 rfl
 have f3 := bf.cell 3 rfl
 have f4 := bf.cell 4 rfl
 have f5 := bf.cell 5 rfl
 have f6 := bf.cell 6 rfl
 have fl := bf.lt
 have x0 := bx.cell 0 rfl
 have x1 := bx.cell 1 rfl
 have x2 := bx.cell 2 rfl
 have x3 := bx.cell 3 rfl
 have x4 := bx.cell 4 rfl
 have x5 := bx.cell 5 rfl
 have x6 := bx.cell 6 rfl
 have x7 := bx.cell 7 rfl
 have x8 := bx.cell 8 rfl
 have x9 := bx.cell 9 rfl
 have xl := bx.lt
 have h0 := bh.cell 0 rfl
 have hlh := bh.lt
 go_wp2_with fail
 refine (HA.out _ hb1).mono ?_
 rintro e w2 ⟨rfl,hq2⟩
 go_wp2_with fail
 go_ret
 exact ⟨by rw [HR.out]; rfl,below_step hb1 hq2⟩
theorem refTypes_13z (cs : List Cls) (f : Fun) (x : Ins) (AH AV AC AI : Option Addr) (cH cV cC cI : Nat) (w : World) (H : Hid (TyH w cs f x AH AV AI cH)) (hn : Hid (NoKw cs)) (hop : x.op = 13) (hz : (x.a == -1) = true) :
  Calls Tryz.prog 271 #[.agg #[.slice AH cs.length cH],.agg #[.string f.cls,.string f.name,.bool f.static,.int .i64 f.nparams,.slice AV f.vars.length cV,.string f.result,.slice AC f.code.length cC],.agg #[.int .i64 x.op,.int .i64 x.dst,.int .i64 x.a,.int .i64 x.b,.int .i64 x.n,.string x.cls,.string x.name,.slice AI x.args.length cI,.int .i64 x.jmp,.int .i64 x.hnd]] w fun e w' => e = .returned (.int .i64 (insT cs f.vars f.result x)) ∧ Below w.heap.size w w' := by
 obtain ⟨r,HR⟩ : ∃ r,Hid (r = insT cs f.vars f.result x) := ⟨_,Lib.hid rfl⟩
 rw [← HR.out]
 have e6 : (x.op == 6) = false := by rw [hop]; rfl
 have e15 : (x.op == 15) = false := by rw [hop]; rfl
 have e7 : (x.op == 7) = false := by rw [hop]; rfl
 have e8 : (x.op == 8) = false := by rw [hop]; rfl
 have e9 : (x.op == 9) = false := by rw [hop]; rfl
 have e10 : (x.op == 10) = false := by rw [hop]; rfl
 have e13 : (x.op == 13) = true := by rw [hop]; rfl
 have HM : Hid (∀ W,Below w.heap.size w W → Hid (TyH W cs f x AH AV AI cH)) := fun W hb => Lib.hid ⟨H.out.hl,H.out.hcc,H.out.hs.mono hb,H.out.hok,H.out.hlk,H.out.hv.mono hb,H.out.hvo,H.out.ha.mono hb,H.out.hla,H.out.hg,H.out.hxc,H.out.hxr⟩
 have HT : Hid (r = if ((x.a == -1) != f.result.toList.isEmpty) = true then 9 else typed ((x.a == -1) || fitsB cs (tyOf f.vars x.a) f.result)) := by show r = _; rw [HR.out,← dec_beq x.a (-1)]; simp [insT,hop] <;> rfl
 have HI := Lib.hid (fun W (h : Below w.heap.size w W) => refInts_13z cs f x AH AV AC AI cH cV cC cI W (HM.out W h) hn hop hz)
 obtain ⟨bi,HBI⟩ : ∃ bi,Hid (bi = (true)) := ⟨_,Lib.hid rfl⟩
 rw [← HBI.out] at HI
 clear HR hop
 have hre : ((f.result.toList == ([] : List UInt8)) = true ∧ f.result.toList.isEmpty = true) ∨ ((f.result.toList == ([] : List UInt8)) = false ∧ f.result.toList.isEmpty = false) := by cases f.result.toList <;> simp
 go_enter Tryz.func271,Tryz.ntmps271
 go_upto_region 1 with fail
 generalize hW : World.alloc _ _ = W1 at *
 have hb1 : Below w.heap.size w W1 := by rw [← hW]; exact (by repeat (first | assumption | exact Below.refl _ _ | apply bw_alloc | apply bw_drew | apply bw_drewN | apply bw_later | apply bw_step))
 have bh : Box W1 w.heap.size [.slice AH cs.length cH] 29 := by rw [← hW]; exact ((Box.new _ _ _).alloc _).alloc _
 have bf : Box W1 (w.heap.size + 1) [.string f.cls,.string f.name,.bool f.static,.int .i64 f.nparams,.slice AV f.vars.length cV,.string f.result,.slice AC f.code.length cC] 42 := by rw [← hW]; exact Box.alloc (w := (w.alloc _).alloc _) (Box.at (w := w.alloc _) (by simp)) _
 have bx : Box W1 (w.heap.size + 2) [.int .i64 x.op,.int .i64 x.dst,.int .i64 x.a,.int .i64 x.b,.int .i64 x.n,.string x.cls,.string x.name,.slice AI x.args.length cI,.int .i64 x.jmp,.int .i64 x.hnd] 59 := by rw [← hW]; refine Box.at (w := (w.alloc _).alloc _) ?_; simp
 clear hW
 have f0 := bf.cell 0 rfl
 have f1 := bf.cell 1 rfl
 have f2 := bf.cell 2 rfl
 have f3 := bf.cell 3 rfl
 have f4 := bf.cell 4 rfl
 have f5 := bf.cell 5 rfl
 have f6 := bf.cell 6 rfl
 have fl := bf.lt
 have x0 := bx.cell 0 rfl
 have x1 := bx.cell 1 rfl
 have x2 := bx.cell 2 rfl
 have x3 := bx.cell 3 rfl
 have x4 := bx.cell 4 rfl
 have x5 := bx.cell 5 rfl
 have x6 := bx.cell 6 rfl
 have x7 := bx.cell 7 rfl
 have x8 := bx.cell 8 rfl
 have x9 := bx.cell 9 rfl
 have xl := bx.lt
 have h0 := bh.cell 0 rfl
 have hlh := bh.lt
 rcases hre with ⟨h1,h2⟩ | ⟨h1,h2⟩
 ·have HB : Hid (r = typed bi) := by show r = _; rw [HT.out,hz,h2,HBI.out]; rfl
  go_wp2_with fail
  refine (HI.out _ hb1).mono ?_
  rintro e w2 ⟨rfl,hq2⟩
  cases bi with
  | false =>
   go_wp2_with fail
   go_ret
   exact ⟨by rw [HB.out]; rfl,below_step hb1 hq2⟩
  | true =>
   go_wp2_with fail
   go_ret
   exact ⟨by rw [HB.out]; rfl,below_step hb1 hq2⟩
 ·have HB : Hid (r = 9) := by show r = 9; rw [HT.out,hz,h2]; rfl
  go_wp2_with fail
  go_ret
  exact ⟨by rw [HB.out]; rfl,hb1⟩
theorem refTypes_13v (cs : List Cls) (f : Fun) (x : Ins) (AH AV AC AI : Option Addr) (cH cV cC cI : Nat) (w : World) (H : Hid (TyH w cs f x AH AV AI cH)) (hn : Hid (NoKw cs)) (hop : x.op = 13) (hz : (x.a == -1) = false) :
  Calls Tryz.prog 271 #[.agg #[.slice AH cs.length cH],.agg #[.string f.cls,.string f.name,.bool f.static,.int .i64 f.nparams,.slice AV f.vars.length cV,.string f.result,.slice AC f.code.length cC],.agg #[.int .i64 x.op,.int .i64 x.dst,.int .i64 x.a,.int .i64 x.b,.int .i64 x.n,.string x.cls,.string x.name,.slice AI x.args.length cI,.int .i64 x.jmp,.int .i64 x.hnd]] w fun e w' => e = .returned (.int .i64 (insT cs f.vars f.result x)) ∧ Below w.heap.size w w' := by
 obtain ⟨r,HR⟩ : ∃ r,Hid (r = insT cs f.vars f.result x) := ⟨_,Lib.hid rfl⟩
 rw [← HR.out]
 have e6 : (x.op == 6) = false := by rw [hop]; rfl
 have e15 : (x.op == 15) = false := by rw [hop]; rfl
 have e7 : (x.op == 7) = false := by rw [hop]; rfl
 have e8 : (x.op == 8) = false := by rw [hop]; rfl
 have e9 : (x.op == 9) = false := by rw [hop]; rfl
 have e10 : (x.op == 10) = false := by rw [hop]; rfl
 have e13 : (x.op == 13) = true := by rw [hop]; rfl
 have HM : Hid (∀ W,Below w.heap.size w W → Hid (TyH W cs f x AH AV AI cH)) := fun W hb => Lib.hid ⟨H.out.hl,H.out.hcc,H.out.hs.mono hb,H.out.hok,H.out.hlk,H.out.hv.mono hb,H.out.hvo,H.out.ha.mono hb,H.out.hla,H.out.hg,H.out.hxc,H.out.hxr⟩
 have HT : Hid (r = if ((x.a == -1) != f.result.toList.isEmpty) = true then 9 else typed ((x.a == -1) || fitsB cs (tyOf f.vars x.a) f.result)) := by show r = _; rw [HR.out,← dec_beq x.a (-1)]; simp [insT,hop] <;> rfl
 have HI := Lib.hid (fun W (h : Below w.heap.size w W) => refInts_13v cs f x AH AV AC AI cH cV cC cI W (HM.out W h) hn hop hz)
 obtain ⟨bi,HBI⟩ : ∃ bi,Hid (bi = (fitsB cs (tyOf f.vars x.a) f.result)) := ⟨_,Lib.hid rfl⟩
 rw [← HBI.out] at HI
 clear HR hop
 have hre : ((f.result.toList == ([] : List UInt8)) = true ∧ f.result.toList.isEmpty = true) ∨ ((f.result.toList == ([] : List UInt8)) = false ∧ f.result.toList.isEmpty = false) := by cases f.result.toList <;> simp
 go_enter Tryz.func271,Tryz.ntmps271
 go_upto_region 1 with fail
 generalize hW : World.alloc _ _ = W1 at *
 have hb1 : Below w.heap.size w W1 := by rw [← hW]; exact (by repeat (first | assumption | exact Below.refl _ _ | apply bw_alloc | apply bw_drew | apply bw_drewN | apply bw_later | apply bw_step))
 have bh : Box W1 w.heap.size [.slice AH cs.length cH] 29 := by rw [← hW]; exact ((Box.new _ _ _).alloc _).alloc _
 have bf : Box W1 (w.heap.size + 1) [.string f.cls,.string f.name,.bool f.static,.int .i64 f.nparams,.slice AV f.vars.length cV,.string f.result,.slice AC f.code.length cC] 42 := by rw [← hW]; exact Box.alloc (w := (w.alloc _).alloc _) (Box.at (w := w.alloc _) (by simp)) _
 have bx : Box W1 (w.heap.size + 2) [.int .i64 x.op,.int .i64 x.dst,.int .i64 x.a,.int .i64 x.b,.int .i64 x.n,.string x.cls,.string x.name,.slice AI x.args.length cI,.int .i64 x.jmp,.int .i64 x.hnd] 59 := by rw [← hW]; refine Box.at (w := (w.alloc _).alloc _) ?_; simp
 clear hW
 have f0 := bf.cell 0 rfl
 have f1 := bf.cell 1 rfl
 have f2 := bf.cell 2 rfl
 have f3 := bf.cell 3 rfl
 have f4 := bf.cell 4 rfl
 have f5 := bf.cell 5 rfl
 have f6 := bf.cell 6 rfl
 have fl := bf.lt
 have x0 := bx.cell 0 rfl
 have x1 := bx.cell 1 rfl
 have x2 := bx.cell 2 rfl
 have x3 := bx.cell 3 rfl
 have x4 := bx.cell 4 rfl
 have x5 := bx.cell 5 rfl
 have x6 := bx.cell 6 rfl
 have x7 := bx.cell 7 rfl
 have x8 := bx.cell 8 rfl
 have x9 := bx.cell 9 rfl
 have xl := bx.lt
 have h0 := bh.cell 0 rfl
 have hlh := bh.lt
 rcases hre with ⟨h1,h2⟩ | ⟨h1,h2⟩
 ·have HB : Hid (r = 9) := by show r = 9; rw [HT.out,hz,h2]; rfl
  go_wp2_with fail
  go_ret
  exact ⟨by rw [HB.out]; rfl,hb1⟩
 ·have HB : Hid (r = typed bi) := by show r = _; rw [HT.out,hz,h2,HBI.out]; rfl
  go_wp2_with fail
  refine (HI.out _ hb1).mono ?_
  rintro e w2 ⟨rfl,hq2⟩
  cases bi with
  | false =>
   go_wp2_with fail
   go_ret
   exact ⟨by rw [HB.out]; rfl,below_step hb1 hq2⟩
  | true =>
   go_wp2_with fail
   go_ret
   exact ⟨by rw [HB.out]; rfl,below_step hb1 hq2⟩
theorem refTypes_any (cs : List Cls) (f : Fun) (x : Ins) (AH AV AC AI : Option Addr) (cH cV cC cI : Nat) (w : World) (H : Hid (TyH w cs f x AH AV AI cH)) (hn : Hid (NoKw cs)) (hk : knownB x.op = true) :
  Calls Tryz.prog 271 #[.agg #[.slice AH cs.length cH],.agg #[.string f.cls,.string f.name,.bool f.static,.int .i64 f.nparams,.slice AV f.vars.length cV,.string f.result,.slice AC f.code.length cC],.agg #[.int .i64 x.op,.int .i64 x.dst,.int .i64 x.a,.int .i64 x.b,.int .i64 x.n,.string x.cls,.string x.name,.slice AI x.args.length cI,.int .i64 x.jmp,.int .i64 x.hnd]] w fun e w' => e = .returned (.int .i64 (insT cs f.vars f.result x)) ∧ Below w.heap.size w w' := by
 unfold knownB at hk
 simp only [Bool.and_eq_true,decide_eq_true_eq] at hk
 have : x.op = 0 ∨ x.op = 1 ∨ x.op = 2 ∨ x.op = 3 ∨ x.op = 4 ∨ x.op = 5 ∨ x.op = 6 ∨ x.op = 7 ∨ x.op = 8 ∨ x.op = 9 ∨ x.op = 10 ∨ x.op = 11 ∨ x.op = 12 ∨ x.op = 13 ∨ x.op = 14 ∨ x.op = 15 ∨ x.op = 16 := by omega
 rcases this with h | h | h | h | h | h | h | h | h | h | h | h | h | h | h | h | h
 ·exact refTypes_0 cs f x AH AV AC AI cH cV cC cI w H hn h
 ·exact refTypes_1 cs f x AH AV AC AI cH cV cC cI w H hn h
 ·exact refTypes_2 cs f x AH AV AC AI cH cV cC cI w H hn h
 ·exact refTypes_3 cs f x AH AV AC AI cH cV cC cI w H hn h
 ·exact refTypes_4 cs f x AH AV AC AI cH cV cC cI w H hn h
 ·exact refTypes_5 cs f x AH AV AC AI cH cV cC cI w H hn h
 ·exact refTypes_6 cs f x AH AV AC AI cH cV cC cI w H hn h
 ·exact refTypes_7 cs f x AH AV AC AI cH cV cC cI w H hn h
 ·exact refTypes_8 cs f x AH AV AC AI cH cV cC cI w H hn h
 ·exact refTypes_9 cs f x AH AV AC AI cH cV cC cI w H hn h
 ·exact refTypes_10 cs f x AH AV AC AI cH cV cC cI w H hn h
 ·exact refTypes_11 cs f x AH AV AC AI cH cV cC cI w H hn h
 ·exact refTypes_12 cs f x AH AV AC AI cH cV cC cI w H hn h
 ·cases hz : (x.a == -1) with
  | true => exact refTypes_13z cs f x AH AV AC AI cH cV cC cI w H hn h hz
  | false => exact refTypes_13v cs f x AH AV AC AI cH cV cC cI w H hn h hz
 ·exact refTypes_14 cs f x AH AV AC AI cH cV cC cI w H hn h
 ·exact refTypes_15 cs f x AH AV AC AI cH cV cC cI w H hn h
 ·exact refTypes_16 cs f x AH AV AC AI cH cV cC cI w H hn h
end Go.Proofs.YtmhdambkchlilaaGreatDoor
