/- Chapter 12: the answer's access: the types of a load or a store. Chapter 12: the answer's checkCall: the types of a call. -/
import Derived.Test.YtmhdambkchlilaaGreatDoorJRf
namespace Go.Proofs.YtmhdambkchlilaaGreatDoor
open Go.RowKit
set_option linter.unusedVariables false
set_option maxRecDepth 100000
set_option maxHeartbeats 4000000
theorem avC {w : World} {AV : Option Addr} {vars : List Fld} {v : Int} (hv : Sl Lay.fld w AV vars) (h : varB vars.length v = true) : ∃ b o : Nat,AV = some ⟨b,o,none⟩ := by
 unfold varB at h
 simp only [Bool.and_eq_true,decide_eq_true_eq] at h
 obtain ⟨b,o,e,_⟩ := hv.fld_at (i := v.toNat) (by omega)
 exact ⟨b,o,e⟩
theorem tyC {w : World} {b o : Nat} {vars : List Fld} {v : Int} (hv : Sl Lay.fld w (some ⟨b,o,none⟩) vars) (h : varB vars.length v = true) :
  ∃ k : Nat,v = k ∧ k < vars.length ∧ (k : Int) < (vars.length : Int) ∧ ∀ W,Below w.heap.size w W → b < W.heap.size ∧ W.cell? ⟨b,o + k * 2 + 1,none⟩ = some (.string (tyOf vars v)) := by
 unfold varB at h
 simp only [Bool.and_eq_true,decide_eq_true_eq] at h
 have hk : v.toNat < vars.length := by omega
 refine ⟨v.toNat,by omega,hk,by omega,fun W hW => ?_⟩
 obtain ⟨b1,o1,e,hb,_,d1⟩ := (hv.mono hW).fld_at hk
 simp only [Option.some.injEq,Addr.mk.injEq] at e
 obtain ⟨rfl,rfl,_⟩ := e
 refine ⟨hb,?_⟩
 unfold tyOf
 rw [List.getElem?_eq_getElem hk,d1]
 rfl
theorem refAccess_7 (cs : List Cls) (f : Fun) (x : Ins) (AH AV AC AI : Option Addr) (cH cV cC cI : Nat) (w : World) (H : Hid (TyH w cs f x AH AV AI cH)) (hn : Hid (NoKw cs)) (hop : x.op = 7) (hva : varB f.vars.length x.a = true) (hvd : varB f.vars.length x.dst = true) :
  Calls Tryz.prog 308 #[.agg #[.slice AH cs.length cH],.agg #[.string f.cls,.string f.name,.bool f.static,.int .i64 f.nparams,.slice AV f.vars.length cV,.string f.result,.slice AC f.code.length cC],.agg #[.int .i64 x.op,.int .i64 x.dst,.int .i64 x.a,.int .i64 x.b,.int .i64 x.n,.string x.cls,.string x.name,.slice AI x.args.length cI,.int .i64 x.jmp,.int .i64 x.hnd]] w fun e w' => e = .returned (.int .i64 (fieldE cs f.vars x)) ∧ Below w.heap.size w w' := by
 obtain ⟨r,HR⟩ : ∃ r,Hid (r = fieldE cs f.vars x) := ⟨_,Lib.hid rfl⟩
 rw [← HR.out]
 have HT : Hid (r = if !isClsT cs (tyOf f.vars x.a) then 8 else if !(fieldS cs (tyOf f.vars x.a) x.name).2.2 then 6 else typed (fitsB cs (fieldS cs (tyOf f.vars x.a) x.name).2.1 (tyOf f.vars x.dst))) := by show r = _; rw [HR.out]; unfold fieldE; rw [hop]; rfl
 have e7 : (x.op == 7) = true := by rw [hop]; rfl
 have e8 : (x.op == 8) = false := by rw [hop]; rfl
 clear HR hop
 obtain ⟨bV,oV,rfl⟩ := avC H.out.hv hva
 obtain ⟨ka,hka,hkal,hkaI,Ha⟩ := tyC H.out.hv hva
 obtain ⟨ko,hko,hkol,hkoI,Ho⟩ := tyC H.out.hv hvd
 replace Ha := Lib.hid Ha
 replace Ho := Lib.hid Ho
 replace hka := Lib.hid hka
 replace hko := Lib.hid hko
 have HIC : Hid (∀ W,Below w.heap.size w W → Calls Tryz.prog 306 #[.agg #[.slice AH cs.length cH],.string (tyOf f.vars x.a)] W fun e w' => e = .returned (.bool (isClsT cs (tyOf f.vars x.a))) ∧ Below W.heap.size W w') := fun W h => by
  rw [isClsT_nk hn.out]; exact refIsClass_any AH cH cs _ W H.out.hl (H.out.hs.mono h)
 have HFD : Hid (∀ W,Below w.heap.size w W → Calls Tryz.prog 328 #[.agg #[.slice AH cs.length cH],.string (tyOf f.vars x.a),.string x.name] W fun e w' => e = .returned (.tuple #[.string (fieldS cs (tyOf f.vars x.a) x.name).1,.string (fieldS cs (tyOf f.vars x.a) x.name).2.1,.bool (fieldS cs (tyOf f.vars x.a) x.name).2.2]) ∧ Below W.heap.size W w') := fun W h => refField_g AH cH cs _ _ W H.out.hl (H.out.hs.mono h) (Lib.hid H.out.hlk)
 have HFI := Lib.hid (fun W (h : Below w.heap.size w W) => refFits_any AH cH cs ((fieldS cs (tyOf f.vars x.a) x.name).2.1) (tyOf f.vars x.dst) W H.out.hl (H.out.hs.mono h) hn)
 generalize (fieldS cs (tyOf f.vars x.a) x.name).1 = p1 at *
 generalize (fieldS cs (tyOf f.vars x.a) x.name).2.1 = p2 at *
 generalize (fieldS cs (tyOf f.vars x.a) x.name).2.2 = p3 at *
 generalize fitsB cs p2 (tyOf f.vars x.dst) = fb at *
 generalize isClsT cs (tyOf f.vars x.a) = q1 at *
 generalize tyOf f.vars x.a = ta at *
 generalize tyOf f.vars x.dst = tO at *
 go_enter Tryz.func308,Tryz.ntmps308
 go_upto_region 1 with fail
 generalize hW : World.alloc _ _ = W1 at *
 have hb1 : Below w.heap.size w W1 := by rw [← hW]; exact (by repeat (first | assumption | exact Below.refl _ _ | apply bw_alloc | apply bw_drew | apply bw_drewN | apply bw_later | apply bw_step))
 have bh : Box W1 w.heap.size [.slice AH cs.length cH] 29 := by rw [← hW]; exact ((Box.new _ _ _).alloc _).alloc _
 have bf : Box W1 (w.heap.size + 1) [.string f.cls,.string f.name,.bool f.static,.int .i64 f.nparams,.slice (some ⟨bV,oV,none⟩) f.vars.length cV,.string f.result,.slice AC f.code.length cC] 42 := by rw [← hW]; exact Box.alloc (w := (w.alloc _).alloc _) (Box.at (w := w.alloc _) (by simp)) _
 have bx : Box W1 (w.heap.size + 2) [.int .i64 x.op,.int .i64 x.dst,.int .i64 x.a,.int .i64 x.b,.int .i64 x.n,.string x.cls,.string x.name,.slice AI x.args.length cI,.int .i64 x.jmp,.int .i64 x.hnd] 59 := by rw [← hW]; refine Box.at (w := (w.alloc _).alloc _) ?_; simp
 clear hW
 have f4 := bf.cell 4 rfl
 have fl := bf.lt
 have x2 := bx.cell 2 rfl
 have xl := bx.lt
 rw [hka.out] at x2
 obtain ⟨eV,cA⟩ := Ha.out _ hb1
 have h0 := bh.cell 0 rfl
 have hlh := bh.lt
 go_wp2_with fail
 refine (HIC.out _ hb1).mono ?_
 rintro e w2 ⟨rfl,hq2⟩
 have hb2 := below_step hb1 hq2
 have bh2 := bh.mono hq2
 have bf2 := bf.mono hq2
 have bx2 := bx.mono hq2
 clear f4 fl x2 xl eV cA h0 hlh bh bf bx HIC Ha
 cases q1 with
 | false =>
  have HB : Hid (r = 8) := by show r = 8; rw [HT.out]; rfl
  go_wp2_with fail
  go_ret
  exact ⟨by rw [HB.out]; rfl,hb2⟩
 | true =>
 have h0 := bh2.cell 0 rfl
 have hlh := bh2.lt
 have x6 := bx2.cell 6 rfl
 have xl := bx2.lt
 go_wp2_with fail
 refine (HFD.out _ hb2).mono ?_
 rintro e w3 ⟨rfl,hq3⟩
 have hb3 := below_step hb2 hq3
 have bh3 := bh2.mono hq3
 have bf3 := bf2.mono hq3
 have bx3 := bx2.mono hq3
 clear h0 hlh x6 xl bh2 bf2 bx2 HFD
 cases p3 with
 | false =>
  have HB : Hid (r = 6) := by show r = 6; rw [HT.out]; rfl
  go_wp2_with fail
  go_ret
  exact ⟨by rw [HB.out]; rfl,hb3⟩
 | true =>
 have HT2 : Hid (r = typed fb) := by show r = _; rw [HT.out]; rfl
 go_upto_region 7 with fail
 have h0 := bh3.cell 0 rfl
 have hlh := bh3.lt
 have f4 := bf3.cell 4 rfl
 have fl := bf3.lt
 have x0 := bx3.cell 0 rfl
 have xo := bx3.cell 1 rfl
 have xl := bx3.lt
 rw [hko.out] at xo
 obtain ⟨eV,cO⟩ := Ho.out _ hb3
 have HC : Hid (∀ y : Later w3,Calls Tryz.prog 307 #[.agg #[.slice AH cs.length cH],.string p2,.string tO] y.W fun e w' => e = .returned (.bool fb) ∧ Below y.W.heap.size y.W w') := fun y => HFI.out _ (below_step hb3 y.h)
 cases fb with
 | false =>
  refine wp_region_later (by kernel_rfl) (by kernel_rfl) ?_
  try simp only [List.append_eq,List.cons_append,List.nil_append]
  repeat (go_big_quiet_step (first | (go_at_call 307; with_reducible exact Calls.later (HC.out _))))
  refine wpQuiet_nil ?_
  rintro _ ⟨y,rfl⟩
  go_wp2_with fail
  go_ret
  exact ⟨by rw [HT2.out]; rfl,below_step hb3 y.h⟩
 | true =>
  refine wp_region_later (by kernel_rfl) (by kernel_rfl) ?_
  try simp only [List.append_eq,List.cons_append,List.nil_append]
  repeat (go_big_quiet_step (first | (go_at_call 307; with_reducible exact Calls.later (HC.out _))))
  refine wpQuiet_nil ?_
  rintro _ ⟨y,rfl⟩
  go_wp2_with fail
  go_ret
  exact ⟨by rw [HT2.out]; rfl,below_step hb3 y.h⟩
theorem refAccess_8 (cs : List Cls) (f : Fun) (x : Ins) (AH AV AC AI : Option Addr) (cH cV cC cI : Nat) (w : World) (H : Hid (TyH w cs f x AH AV AI cH)) (hn : Hid (NoKw cs)) (hop : x.op = 8) (hva : varB f.vars.length x.a = true) (hvb : varB f.vars.length x.b = true) :
  Calls Tryz.prog 308 #[.agg #[.slice AH cs.length cH],.agg #[.string f.cls,.string f.name,.bool f.static,.int .i64 f.nparams,.slice AV f.vars.length cV,.string f.result,.slice AC f.code.length cC],.agg #[.int .i64 x.op,.int .i64 x.dst,.int .i64 x.a,.int .i64 x.b,.int .i64 x.n,.string x.cls,.string x.name,.slice AI x.args.length cI,.int .i64 x.jmp,.int .i64 x.hnd]] w fun e w' => e = .returned (.int .i64 (fieldE cs f.vars x)) ∧ Below w.heap.size w w' := by
 obtain ⟨r,HR⟩ : ∃ r,Hid (r = fieldE cs f.vars x) := ⟨_,Lib.hid rfl⟩
 rw [← HR.out]
 have HT : Hid (r = if !isClsT cs (tyOf f.vars x.a) then 8 else if !(fieldS cs (tyOf f.vars x.a) x.name).2.2 then 6 else typed (fitsB cs (tyOf f.vars x.b) (fieldS cs (tyOf f.vars x.a) x.name).2.1)) := by show r = _; rw [HR.out]; unfold fieldE; rw [hop]; rfl
 have e7 : (x.op == 7) = false := by rw [hop]; rfl
 have e8 : (x.op == 8) = true := by rw [hop]; rfl
 clear HR hop
 obtain ⟨bV,oV,rfl⟩ := avC H.out.hv hva
 obtain ⟨ka,hka,hkal,hkaI,Ha⟩ := tyC H.out.hv hva
 obtain ⟨ko,hko,hkol,hkoI,Ho⟩ := tyC H.out.hv hvb
 replace Ha := Lib.hid Ha
 replace Ho := Lib.hid Ho
 replace hka := Lib.hid hka
 replace hko := Lib.hid hko
 have HIC : Hid (∀ W,Below w.heap.size w W → Calls Tryz.prog 306 #[.agg #[.slice AH cs.length cH],.string (tyOf f.vars x.a)] W fun e w' => e = .returned (.bool (isClsT cs (tyOf f.vars x.a))) ∧ Below W.heap.size W w') := fun W h => by
  rw [isClsT_nk hn.out]; exact refIsClass_any AH cH cs _ W H.out.hl (H.out.hs.mono h)
 have HFD : Hid (∀ W,Below w.heap.size w W → Calls Tryz.prog 328 #[.agg #[.slice AH cs.length cH],.string (tyOf f.vars x.a),.string x.name] W fun e w' => e = .returned (.tuple #[.string (fieldS cs (tyOf f.vars x.a) x.name).1,.string (fieldS cs (tyOf f.vars x.a) x.name).2.1,.bool (fieldS cs (tyOf f.vars x.a) x.name).2.2]) ∧ Below W.heap.size W w') := fun W h => refField_g AH cH cs _ _ W H.out.hl (H.out.hs.mono h) (Lib.hid H.out.hlk)
 have HFI := Lib.hid (fun W (h : Below w.heap.size w W) => refFits_any AH cH cs (tyOf f.vars x.b) ((fieldS cs (tyOf f.vars x.a) x.name).2.1) W H.out.hl (H.out.hs.mono h) hn)
 generalize (fieldS cs (tyOf f.vars x.a) x.name).1 = p1 at *
 generalize (fieldS cs (tyOf f.vars x.a) x.name).2.1 = p2 at *
 generalize (fieldS cs (tyOf f.vars x.a) x.name).2.2 = p3 at *
 generalize fitsB cs (tyOf f.vars x.b) p2 = fb at *
 generalize isClsT cs (tyOf f.vars x.a) = q1 at *
 generalize tyOf f.vars x.a = ta at *
 generalize tyOf f.vars x.b = tO at *
 go_enter Tryz.func308,Tryz.ntmps308
 go_upto_region 1 with fail
 generalize hW : World.alloc _ _ = W1 at *
 have hb1 : Below w.heap.size w W1 := by rw [← hW]; exact (by repeat (first | assumption | exact Below.refl _ _ | apply bw_alloc | apply bw_drew | apply bw_drewN | apply bw_later | apply bw_step))
 have bh : Box W1 w.heap.size [.slice AH cs.length cH] 29 := by rw [← hW]; exact ((Box.new _ _ _).alloc _).alloc _
 have bf : Box W1 (w.heap.size + 1) [.string f.cls,.string f.name,.bool f.static,.int .i64 f.nparams,.slice (some ⟨bV,oV,none⟩) f.vars.length cV,.string f.result,.slice AC f.code.length cC] 42 := by rw [← hW]; exact Box.alloc (w := (w.alloc _).alloc _) (Box.at (w := w.alloc _) (by simp)) _
 have bx : Box W1 (w.heap.size + 2) [.int .i64 x.op,.int .i64 x.dst,.int .i64 x.a,.int .i64 x.b,.int .i64 x.n,.string x.cls,.string x.name,.slice AI x.args.length cI,.int .i64 x.jmp,.int .i64 x.hnd] 59 := by rw [← hW]; refine Box.at (w := (w.alloc _).alloc _) ?_; simp
 clear hW
 have f4 := bf.cell 4 rfl
 have fl := bf.lt
 have x2 := bx.cell 2 rfl
 have xl := bx.lt
 rw [hka.out] at x2
 obtain ⟨eV,cA⟩ := Ha.out _ hb1
 have h0 := bh.cell 0 rfl
 have hlh := bh.lt
 go_wp2_with fail
 refine (HIC.out _ hb1).mono ?_
 rintro e w2 ⟨rfl,hq2⟩
 have hb2 := below_step hb1 hq2
 have bh2 := bh.mono hq2
 have bf2 := bf.mono hq2
 have bx2 := bx.mono hq2
 clear f4 fl x2 xl eV cA h0 hlh bh bf bx HIC Ha
 cases q1 with
 | false =>
  have HB : Hid (r = 8) := by show r = 8; rw [HT.out]; rfl
  go_wp2_with fail
  go_ret
  exact ⟨by rw [HB.out]; rfl,hb2⟩
 | true =>
 have h0 := bh2.cell 0 rfl
 have hlh := bh2.lt
 have x6 := bx2.cell 6 rfl
 have xl := bx2.lt
 go_wp2_with fail
 refine (HFD.out _ hb2).mono ?_
 rintro e w3 ⟨rfl,hq3⟩
 have hb3 := below_step hb2 hq3
 have bh3 := bh2.mono hq3
 have bf3 := bf2.mono hq3
 have bx3 := bx2.mono hq3
 clear h0 hlh x6 xl bh2 bf2 bx2 HFD
 cases p3 with
 | false =>
  have HB : Hid (r = 6) := by show r = 6; rw [HT.out]; rfl
  go_wp2_with fail
  go_ret
  exact ⟨by rw [HB.out]; rfl,hb3⟩
 | true =>
 have HT2 : Hid (r = typed fb) := by show r = _; rw [HT.out]; rfl
 go_upto_region 7 with fail
 have h0 := bh3.cell 0 rfl
 have hlh := bh3.lt
 have f4 := bf3.cell 4 rfl
 have fl := bf3.lt
 have x0 := bx3.cell 0 rfl
 have xo := bx3.cell 3 rfl
 have xl := bx3.lt
 rw [hko.out] at xo
 obtain ⟨eV,cO⟩ := Ho.out _ hb3
 have HC : Hid (∀ y : Later w3,Calls Tryz.prog 307 #[.agg #[.slice AH cs.length cH],.string tO,.string p2] y.W fun e w' => e = .returned (.bool fb) ∧ Below y.W.heap.size y.W w') := fun y => HFI.out _ (below_step hb3 y.h)
 cases fb with
 | false =>
  refine wp_region_later (by kernel_rfl) (by kernel_rfl) ?_
  try simp only [List.append_eq,List.cons_append,List.nil_append]
  repeat (go_big_quiet_step (first | (go_at_call 307; with_reducible exact Calls.later (HC.out _))))
  refine wpQuiet_nil ?_
  rintro _ ⟨y,rfl⟩
  go_wp2_with fail
  go_ret
  exact ⟨by rw [HT2.out]; rfl,below_step hb3 y.h⟩
 | true =>
  refine wp_region_later (by kernel_rfl) (by kernel_rfl) ?_
  try simp only [List.append_eq,List.cons_append,List.nil_append]
  repeat (go_big_quiet_step (first | (go_at_call 307; with_reducible exact Calls.later (HC.out _))))
  refine wpQuiet_nil ?_
  rintro _ ⟨y,rfl⟩
  go_wp2_with fail
  go_ret
  exact ⟨by rw [HT2.out]; rfl,below_step hb3 y.h⟩
theorem refCall_9 (cs : List Cls) (f : Fun) (x : Ins) (AH AV AC AI : Option Addr) (cH cV cC cI : Nat) (w : World) (H : Hid (TyH w cs f x AH AV AI cH)) (hn : Hid (NoKw cs)) (hop : x.op = 9) :
  Calls Tryz.prog 309 #[.agg #[.slice AH cs.length cH],.agg #[.string f.cls,.string f.name,.bool f.static,.int .i64 f.nparams,.slice AV f.vars.length cV,.string f.result,.slice AC f.code.length cC],.agg #[.int .i64 x.op,.int .i64 x.dst,.int .i64 x.a,.int .i64 x.b,.int .i64 x.n,.string x.cls,.string x.name,.slice AI x.args.length cI,.int .i64 x.jmp,.int .i64 x.hnd]] w fun e w' => e = .returned (.int .i64 (insT cs f.vars f.result x)) ∧ Below w.heap.size w w' := by
 obtain ⟨r,HR⟩ : ∃ r,Hid (r = insT cs f.vars f.result x) := ⟨_,Lib.hid rfl⟩
 rw [← HR.out]
 have HT : Hid (r = if !isClsT cs (tyOf f.vars x.a) || !((tyOf f.vars x.a).toList == x.cls.toList) then 8 else match sgAt cs (lookS cs x.cls x.name) with
  | none => 6
  | some g => if g.static then 6 else callE cs f.vars x g) := by show r = _; rw [HR.out]; simp [insT,hop] <;> rfl
 have e9 : (x.op == 9) = true := by rw [hop]; rfl
 have hdc : Hid (x.dst ≠ -1 → varB f.vars.length x.dst = true) := fun h => by
  rcases H.out.hg.d (by rw [hop]; rfl) with h2 | ⟨_,h2⟩
  ·exact h2
  ·exact absurd h2 h
 have hva := H.out.hg.va (by rw [hop]; rfl) (by rw [hop]; decide)
 obtain ⟨bV,oV,rfl⟩ := avC H.out.hv hva
 obtain ⟨ka,hka,hkal,hkaI,Ha⟩ := tyC H.out.hv hva
 replace Ha := Lib.hid Ha
 replace hka := Lib.hid hka
 have HIC : Hid (∀ W,Below w.heap.size w W → Calls Tryz.prog 306 #[.agg #[.slice AH cs.length cH],.string (tyOf f.vars x.a)] W fun e w' => e = .returned (.bool (isClsT cs (tyOf f.vars x.a))) ∧ Below W.heap.size W w') := fun W h => by
  rw [isClsT_nk hn.out]; exact refIsClass_any AH cH cs _ W H.out.hl (H.out.hs.mono h)
 generalize isClsT cs (tyOf f.vars x.a) = q1 at *
 generalize tyOf f.vars x.a = ta at *
 have HFI := Lib.hid (fun p q W (h : Below w.heap.size w W) => refFits_any AH cH cs p q W H.out.hl (H.out.hs.mono h) hn)
 clear HR hop
 go_enter Tryz.func309,Tryz.ntmps309
 go_upto_region 1 with fail
 generalize hW : World.alloc _ _ = W1 at *
 have hb1 : Below w.heap.size w W1 := by rw [← hW]; exact (by repeat (first | assumption | exact Below.refl _ _ | apply bw_alloc | apply bw_drew | apply bw_drewN | apply bw_later | apply bw_step))
 have bh : Box W1 w.heap.size [.slice AH cs.length cH] 29 := by rw [← hW]; exact ((Box.new _ _ _).alloc _).alloc _
 have bf : Box W1 (w.heap.size + 1) [.string f.cls,.string f.name,.bool f.static,.int .i64 f.nparams,.slice (some ⟨bV,oV,none⟩) f.vars.length cV,.string f.result,.slice AC f.code.length cC] 42 := by rw [← hW]; exact Box.alloc (w := (w.alloc _).alloc _) (Box.at (w := w.alloc _) (by simp)) _
 have bx : Box W1 (w.heap.size + 2) [.int .i64 x.op,.int .i64 x.dst,.int .i64 x.a,.int .i64 x.b,.int .i64 x.n,.string x.cls,.string x.name,.slice AI x.args.length cI,.int .i64 x.jmp,.int .i64 x.hnd] 59 := by rw [← hW]; refine Box.at (w := (w.alloc _).alloc _) ?_; simp
 have hz1 : W1.heap.size = w.heap.size + 3 := by rw [← hW]; simp
 clear hW
 go_upto_region 2 with fail
 generalize hW : World.alloc _ _ = W2 at *
 have h12 : Below W1.heap.size W1 W2 := by rw [← hW]; exact bw_alloc (Below.refl _ _)
 have bs : Box W2 (w.heap.size + 3) [.string ByteArray.empty,.bool false,.slice none 0 0,.string ByteArray.empty] 36 := by rw [← hW]; exact Box.at hz1
 clear hW
 have hb2 := below_step hb1 h12
 have bh2 := bh.mono h12
 have bf2 := bf.mono h12
 have bx2 := bx.mono h12
 clear bh bf bx h12 hz1
 have x0 := bx2.cell 0 rfl
 have xl := bx2.lt
 have f4 := bf2.cell 4 rfl
 have fl := bf2.lt
 have x2 := bx2.cell 2 rfl
 rw [hka.out] at x2
 obtain ⟨eV,cA⟩ := Ha.out _ hb2
 have h0 := bh2.cell 0 rfl
 have hlh := bh2.lt
 go_wp2_with fail
 refine (HIC.out _ hb2).mono ?_
 rintro e w3 ⟨rfl,hq3⟩
 have hb3 := below_step hb2 hq3
 have bh3 := bh2.mono hq3
 have bf3 := bf2.mono hq3
 have bx3 := bx2.mono hq3
 have bs3 := bs.mono hq3
 clear f4 fl x0 x2 xl eV cA h0 hlh bh2 bf2 bx2 bs HIC Ha
 cases q1 with
 | false =>
  have HB : Hid (r = 8) := by show r = 8; rw [HT.out]; rfl
  go_wp2_with fail
  go_ret
  exact ⟨by rw [HB.out]; rfl,hb3⟩
 | true =>
 have x5 := bx3.cell 5 rfl
 have xl := bx3.lt
 rcases bspU (ta.toList == x.cls.toList) with hq | hq
 ·have hq' : (ta.toList != x.cls.toList) = true := by rw [bne,hq]; rfl
  have HB : Hid (r = 8) := by show r = 8; rw [HT.out,hq]; rfl
  go_wp2_with fail
  go_ret
  exact ⟨by rw [HB.out]; rfl,hb3⟩
 have hq' : (ta.toList != x.cls.toList) = false := by rw [bne,hq]; rfl
 have HT2 : Hid (r = match sgAt cs (lookS cs x.cls x.name) with
  | none => 6
  | some g => if g.static then 6 else callE cs f.vars x g) := by show r = _; rw [HT.out,hq]; rfl
 have HTE : Hid (ta = x.cls) := eqS_iff.1 hq
 clear HT
 have x6 := bx3.cell 6 rfl
 have h0 := bh3.cell 0 rfl
 have hlh := bh3.lt
 go_upto_region 7 with fail
 clear hq hq' x5
 have HLK := Lib.hid (refLookup_b AH cH cs ta x.name w w3 hb3 H.out.hl H.out.hs (Lib.hid H.out.hlk))
 go_wp2_with fail
 refine HLK.out.mono ?_
 rintro e w4 ⟨hR,hq4⟩
 have hb4 := below_step hb3 hq4
 have bh4 := bh3.mono hq4
 have bf4 := bf3.mono hq4
 have bx4 := bx3.mono hq4
 have bs4 := bs3.mono hq4
 obtain ⟨nm,g,AP,cP,ok,rfl,hK⟩ := hR.ok H.out.hlk
 rw [HTE.out] at hK
 have HK := Lib.hid hK
 clear h0 hlh x6 xl hR hK bh3 bf3 bx3 bs3 HLK
 have s0 := bs4.cell 0 rfl
 have s1 := bs4.cell 1 rfl
 have s2 := bs4.cell 2 rfl
 have s3 := bs4.cell 3 rfl
 have sf := fun i => bs4.free i
 have sl := bs4.lt
 go_upto_region 8 with fail
 obtain ⟨bs5,hg5⟩ := bs4.store4 (.string g.name) (.bool g.static) (.slice AP g.params.length cP) (.string g.result)
 have hb5 := hb4.grown hg5 hb4.size (fun k hk => by injection hk with hk; omega)
 have bh5 := bh4.grown hg5 (fun k => by injection k with k; omega)
 have bf5 := bf4.grown hg5 (fun k => by injection k with k; omega)
 have bx5 := bx4.grown hg5 (fun k => by injection k with k; omega)
 clear s0 s1 s2 s3 sf sl hg5 bs4 bh4 bf4 bx4
 generalize World.setCell _ _ _ = W5 at *
 have s1 := bs5.cell 1 rfl
 have sl := bs5.lt
 have hok : Hid ((ok && !g.static) = true → r = callE cs f.vars x g) := fun h => by
  simp only [Bool.and_eq_true,Bool.not_eq_true'] at h
  rw [HT2.out,(HK.out.yes h.1).1]; show (if g.static then 6 else _) = _; rw [h.2]; rfl
 have hno : Hid ((ok && !g.static) = false → r = 6) := fun h => by
  rw [HT2.out]
  cases ok with
  | false => rw [HK.out.no rfl]
  | true =>
   rw [(HK.out.yes rfl).1]
   show (if g.static then 6 else _) = _
   have : g.static = true := by simpa using h
   rw [this]; rfl
 go_cut [8] (fun s wx => s = .bool (ok && !g.static) ∧ W5 = wx)
 case first =>
  cases ok with
  | false =>
   go_wp2_with fail
   go_meet
   exact ⟨rfl,rfl⟩
  | true =>
   go_wp2_with fail
   go_meet
   exact ⟨rfl,rfl⟩
 case rest =>
 obtain ⟨rfl,rfl⟩ := hcut
 clear s1 sl HT2
 have hsP := HK.out.sl
 have hcP := HK.out.le
 have hpP := HK.out.pl
 clear HK HTE
 generalize (ok && !g.static) = q at *
 cases q with
 | false =>
  have HB := Lib.hid (hno.out rfl)
  go_wp2_with fail
  go_ret
  exact ⟨by rw [HB.out]; rfl,hb5⟩
 | true =>
 have HR2 := Lib.hid (hok.out rfl)
 clear hok hno
 have s2 := bs5.cell 2 rfl
 have sl := bs5.lt
 have x7 := bx5.cell 7 rfl
 have xl := bx5.lt
 by_cases hlen : x.args.length ≠ g.params.length
 ·have HB : Hid (r = 9) := by show r = 9; rw [HR2.out,callE_len hlen]
  have hq : ((g.params.length : Int) != (x.args.length : Int)) = true := by simp; omega
  have hq2 : (g.params.length != x.args.length) = true := by simp; omega
  clear hlen
  go_wp2_with fail
  go_ret
  exact ⟨by rw [HB.out]; rfl,hb5⟩
 replace hlen : x.args.length = g.params.length := Classical.not_not.1 hlen
 have HL := Lib.hid hlen
 have hq : ((g.params.length : Int) != (x.args.length : Int)) = false := by simp; omega
 have hq2 : (g.params.length != x.args.length) = false := by simp; omega
 clear hlen
 go_wp2_with fail
 clear s2 sl x7 xl hq hq2
 go_loopw [10] (fun i wr => ∃ k : Nat,k ≤ x.args.length ∧ i = .int .i64 k ∧ Hid (∀ i,i < k → callG cs f.vars x g i = false) ∧ Below W5.heap.size W5 wr) (fun i _ => x.args.length - (intOf i).toNat)
 case atStart => exact ⟨0,Nat.zero_le _,rfl,fun i hi => by omega,Below.refl _ _⟩
 case round =>
  obtain ⟨k,hk,rfl,HN,hbr⟩ := hrel
  have hbw := below_step hb5 hbr
  have bh6 := bh5.mono hbr
  have bf6 := bf5.mono hbr
  have bx6 := bx5.mono hbr
  have bs6 := bs5.mono hbr
  by_cases hlt : k < x.args.length
  ·have hlt2 : k < g.params.length := by have := HL.out; omega
   have hvk := H.out.hg.s _ (List.getElem_mem hlt)
   obtain ⟨kv,hkv,hkvl,hkvI,Hv⟩ := tyC H.out.hv hvk
   obtain ⟨eV,cV'⟩ := Hv _ hbw
   have HC : Hid (∀ y : Later wr,Calls Tryz.prog 307 #[.agg #[.slice AH cs.length cH],.string (tyOf f.vars x.args[k]),.string g.params[k]] y.W fun e w' => e = .returned (.bool (fitsB cs (tyOf f.vars x.args[k]) g.params[k])) ∧ Below y.W.heap.size y.W w') := fun y => HFI.out _ _ _ (below_step hbw y.h)
   have HG := Lib.hid (callG_at (cs := cs) (vars := f.vars) hlt hlt2)
   obtain ⟨bA,oA,rfl,hbA,a0⟩ := (H.out.ha.mono hbw).int_at hlt
   obtain ⟨bP,oP,rfl,hbP,p0⟩ := (hsP.mono hbw).str_at hlt2
   rw [hkv] at a0
   clear hvk Hv hkv
   generalize fitsB cs (tyOf f.vars x.args[k]) g.params[k] = fb at *
   generalize tyOf f.vars x.args[k] = ty at *
   have h0 := bh6.cell 0 rfl
   have hlh := bh6.lt
   have f4 := bf6.cell 4 rfl
   have fl := bf6.lt
   have x7 := bx6.cell 7 rfl
   have xl := bx6.lt
   have s2 := bs6.cell 2 rfl
   have sl := bs6.lt
   go_upto_region 17 with fail
   refine wp_region_later (by kernel_rfl) (by kernel_rfl) ?_
   try simp only [List.append_eq,List.cons_append,List.nil_append]
   repeat (go_big_quiet_step (first | (go_at_call 307; with_reducible exact Calls.later (HC.out _))))
   refine wpQuiet_nil ?_
   rintro _ ⟨y,rfl⟩
   cases fb with
   | false =>
    have HB : Hid (r = 8) := by show r = 8; rw [HR2.out,callE_hit HL.out hlt (by rw [HG.out]; rfl)]
    go_wp2_with fail
    go_ret
    exact ⟨by rw [HB.out]; rfl,below_step hbw y.h⟩
   | true =>
    have HN2 : Hid (∀ i,i < k + 1 → callG cs f.vars x g i = false) := fun i hi => by
     by_cases e : i = k
     ·subst e; rw [HG.out]; rfl
     ·exact HN.out i (by omega)
    clear HG HC
    go_wp2_with fail
    go_roundw
    case rel => exact ⟨k + 1,by omega,by go_num,HN2,below_step hbr y.h⟩
    case measure => simp [intOf]; omega
  ·have HZ : Hid (r = typed (callZ cs f.vars x g)) := by show r = _; rw [HR2.out,callE_pass HL.out (fun i hi => HN.out i (by omega))]
   clear HR2 HN
   have h0 := bh6.cell 0 rfl
   have hlh := bh6.lt
   have f4 := bf6.cell 4 rfl
   have fl := bf6.lt
   have x1 := bx6.cell 1 rfl
   have x7 := bx6.cell 7 rfl
   have xl := bx6.lt
   have s3 := bs6.cell 3 rfl
   have sl := bs6.lt
   go_upto_region 19 with fail
   rcases bspU (x.dst == -1) with hd1 | hd1
   rotate_left
   ·have hd2 : (x.dst != -1) = false := by rw [bne,hd1]; rfl
    have HB : Hid (r = 0) := by show r = 0; rw [HZ.out]; unfold callZ; rw [decide_eq_true (by simpa using hd1)]; rfl
    refine wp_region_later (by kernel_rfl) (by kernel_rfl) ?_
    try simp only [List.append_eq,List.cons_append,List.nil_append]
    repeat (go_big_quiet_step (fail))
    refine wpQuiet_nil ?_
    rintro _ ⟨y,rfl⟩
    go_wp2_with fail
    go_ret
    exact ⟨by rw [HB.out]; rfl,below_step hbw y.h⟩
   have hd2 : (x.dst != -1) = true := by rw [bne,hd1]; rfl
   have hvd := hdc.out (by simpa using hd1)
   have HZ2 : Hid (r = typed (!g.result.toList.isEmpty && fitsB cs g.result (tyOf f.vars x.dst))) := by show r = _; rw [HZ.out]; unfold callZ; rw [decide_eq_false (by simpa using hd1)]; rfl
   clear HZ hdc
   rcases empty_cases g.result with ⟨e1,e2,e3⟩ | ⟨e1,e2,e3⟩
   ·have HB : Hid (r = 8) := by show r = 8; rw [HZ2.out,e1]; rfl
    refine wp_region_later (by kernel_rfl) (by kernel_rfl) ?_
    try simp only [List.append_eq,List.cons_append,List.nil_append]
    repeat (go_big_quiet_step (fail))
    refine wpQuiet_nil ?_
    rintro _ ⟨y,rfl⟩
    go_wp2_with fail
    go_ret
    exact ⟨by rw [HB.out]; rfl,below_step hbw y.h⟩
   obtain ⟨kd,hkd,hkdl,hkdI,Hd⟩ := tyC H.out.hv hvd
   obtain ⟨eV,cD⟩ := Hd _ hbw
   have HZ3 : Hid (r = typed (fitsB cs g.result (tyOf f.vars x.dst))) := by show r = _; rw [HZ2.out,e1]; rfl
   have HC : Hid (∀ y : Later wr,Calls Tryz.prog 307 #[.agg #[.slice AH cs.length cH],.string g.result,.string (tyOf f.vars x.dst)] y.W fun e w' => e = .returned (.bool (fitsB cs g.result (tyOf f.vars x.dst))) ∧ Below y.W.heap.size y.W w') := fun y => HFI.out _ _ _ (below_step hbw y.h)
   rw [hkd] at x1 hd1 hd2
   clear hvd Hd HZ2
   generalize fitsB cs g.result (tyOf f.vars x.dst) = fb at *
   generalize tyOf f.vars x.dst = ty at *
   clear hkd
   refine wp_region_later (by kernel_rfl) (by kernel_rfl) ?_
   try simp only [List.append_eq,List.cons_append,List.nil_append]
   repeat (go_big_quiet_step (first | (go_at_call 307; with_reducible exact Calls.later (HC.out _))))
   refine wpQuiet_nil ?_
   rintro _ ⟨y,rfl⟩
   cases fb with
   | false =>
    go_wp2_with fail
    go_ret
    exact ⟨by rw [HZ3.out]; rfl,below_step hbw y.h⟩
   | true =>
    go_wp2_with fail
    go_ret
    exact ⟨by rw [HZ3.out]; rfl,below_step hbw y.h⟩
theorem refCall_10 (cs : List Cls) (f : Fun) (x : Ins) (AH AV AC AI : Option Addr) (cH cV cC cI : Nat) (w : World) (H : Hid (TyH w cs f x AH AV AI cH)) (hn : Hid (NoKw cs)) (hop : x.op = 10) :
  Calls Tryz.prog 309 #[.agg #[.slice AH cs.length cH],.agg #[.string f.cls,.string f.name,.bool f.static,.int .i64 f.nparams,.slice AV f.vars.length cV,.string f.result,.slice AC f.code.length cC],.agg #[.int .i64 x.op,.int .i64 x.dst,.int .i64 x.a,.int .i64 x.b,.int .i64 x.n,.string x.cls,.string x.name,.slice AI x.args.length cI,.int .i64 x.jmp,.int .i64 x.hnd]] w fun e w' => e = .returned (.int .i64 (insT cs f.vars f.result x)) ∧ Below w.heap.size w w' := by
 obtain ⟨r,HR⟩ : ∃ r,Hid (r = insT cs f.vars f.result x) := ⟨_,Lib.hid rfl⟩
 rw [← HR.out]
 have HT : Hid (r = match statS cs x with
  | none => 6
  | some g => callE cs f.vars x g) := by show r = _; rw [HR.out]; simp [insT,hop] <;> rfl
 have e9 : (x.op == 9) = false := by rw [hop]; rfl
 have hdc : Hid (x.dst ≠ -1 → varB f.vars.length x.dst = true) := fun h => by
  rcases H.out.hg.d (by rw [hop]; rfl) with h2 | ⟨_,h2⟩
  ·exact h2
  ·exact absurd h2 h
 have HFI := Lib.hid (fun p q W (h : Below w.heap.size w W) => refFits_any AH cH cs p q W H.out.hl (H.out.hs.mono h) hn)
 clear HR hop
 go_enter Tryz.func309,Tryz.ntmps309
 go_upto_region 1 with fail
 generalize hW : World.alloc _ _ = W1 at *
 have hb1 : Below w.heap.size w W1 := by rw [← hW]; exact (by repeat (first | assumption | exact Below.refl _ _ | apply bw_alloc | apply bw_drew | apply bw_drewN | apply bw_later | apply bw_step))
 have bh : Box W1 w.heap.size [.slice AH cs.length cH] 29 := by rw [← hW]; exact ((Box.new _ _ _).alloc _).alloc _
 have bf : Box W1 (w.heap.size + 1) [.string f.cls,.string f.name,.bool f.static,.int .i64 f.nparams,.slice AV f.vars.length cV,.string f.result,.slice AC f.code.length cC] 42 := by rw [← hW]; exact Box.alloc (w := (w.alloc _).alloc _) (Box.at (w := w.alloc _) (by simp)) _
 have bx : Box W1 (w.heap.size + 2) [.int .i64 x.op,.int .i64 x.dst,.int .i64 x.a,.int .i64 x.b,.int .i64 x.n,.string x.cls,.string x.name,.slice AI x.args.length cI,.int .i64 x.jmp,.int .i64 x.hnd] 59 := by rw [← hW]; refine Box.at (w := (w.alloc _).alloc _) ?_; simp
 have hz1 : W1.heap.size = w.heap.size + 3 := by rw [← hW]; simp
 clear hW
 go_upto_region 2 with fail
 generalize hW : World.alloc _ _ = W2 at *
 have h12 : Below W1.heap.size W1 W2 := by rw [← hW]; exact bw_alloc (Below.refl _ _)
 have bs : Box W2 (w.heap.size + 3) [.string ByteArray.empty,.bool false,.slice none 0 0,.string ByteArray.empty] 36 := by rw [← hW]; exact Box.at hz1
 clear hW
 have hb2 := below_step hb1 h12
 have bh2 := bh.mono h12
 have bf2 := bf.mono h12
 have bx2 := bx.mono h12
 clear bh bf bx h12 hz1
 have x0 := bx2.cell 0 rfl
 have xl := bx2.lt
 have x5 := bx2.cell 5 rfl
 have x6 := bx2.cell 6 rfl
 have h0 := bh2.cell 0 rfl
 have hlh := bh2.lt
 go_upto_region 9 with fail
 go_wp2_with fail
 refine (refDecl_b AH cH cs x w _ hb2 H.out.hl H.out.hs (Lib.hid H.out.hlk)).mono ?_
 rintro e w4 ⟨⟨g,AP,cP,ok,rfl,hK⟩,hq4⟩
 have hb4 := below_step hb2 hq4
 have bh4 := bh2.mono hq4
 have bf4 := bf2.mono hq4
 have bx4 := bx2.mono hq4
 have bs4 := bs.mono hq4
 have HK := Lib.hid hK
 clear h0 hlh x0 x5 x6 xl hK bh2 bf2 bx2 bs
 have s0 := bs4.cell 0 rfl
 have s1 := bs4.cell 1 rfl
 have s2 := bs4.cell 2 rfl
 have s3 := bs4.cell 3 rfl
 have sf := fun i => bs4.free i
 have sl := bs4.lt
 go_upto_region 10 with fail
 obtain ⟨bs5,hg5⟩ := bs4.store4 (.string g.name) (.bool g.static) (.slice AP g.params.length cP) (.string g.result)
 have hb5 := hb4.grown hg5 hb4.size (fun k hk => by injection hk with hk; omega)
 have bh5 := bh4.grown hg5 (fun k => by injection k with k; omega)
 have bf5 := bf4.grown hg5 (fun k => by injection k with k; omega)
 have bx5 := bx4.grown hg5 (fun k => by injection k with k; omega)
 clear s0 s1 s2 s3 sf sl hg5 bs4 bh4 bf4 bx4
 generalize World.setCell _ _ _ = W5 at *
 have hok : Hid (ok = true → r = callE cs f.vars x g) := fun h => by rw [HT.out,HK.out.yes h]
 have hno : Hid (ok = false → r = 6) := fun h => by rw [HT.out,HK.out.no h]
 have hsP := HK.out.sl
 have hcP := HK.out.le
 have hpP := HK.out.pl
 clear HT HK
 generalize ok = q at *
 cases q with
 | false =>
  have HB := Lib.hid (hno.out rfl)
  go_wp2_with fail
  go_ret
  exact ⟨by rw [HB.out]; rfl,hb5⟩
 | true =>
 have HR2 := Lib.hid (hok.out rfl)
 clear hok hno
 have s2 := bs5.cell 2 rfl
 have sl := bs5.lt
 have x7 := bx5.cell 7 rfl
 have xl := bx5.lt
 by_cases hlen : x.args.length ≠ g.params.length
 ·have HB : Hid (r = 9) := by show r = 9; rw [HR2.out,callE_len hlen]
  have hq : ((g.params.length : Int) != (x.args.length : Int)) = true := by simp; omega
  have hq2 : (g.params.length != x.args.length) = true := by simp; omega
  clear hlen
  go_wp2_with fail
  go_ret
  exact ⟨by rw [HB.out]; rfl,hb5⟩
 replace hlen : x.args.length = g.params.length := Classical.not_not.1 hlen
 have HL := Lib.hid hlen
 have hq : ((g.params.length : Int) != (x.args.length : Int)) = false := by simp; omega
 have hq2 : (g.params.length != x.args.length) = false := by simp; omega
 clear hlen
 go_wp2_with fail
 clear s2 sl x7 xl hq hq2
 go_loopw [10] (fun i wr => ∃ k : Nat,k ≤ x.args.length ∧ i = .int .i64 k ∧ Hid (∀ i,i < k → callG cs f.vars x g i = false) ∧ Below W5.heap.size W5 wr) (fun i _ => x.args.length - (intOf i).toNat)
 case atStart => exact ⟨0,Nat.zero_le _,rfl,fun i hi => by omega,Below.refl _ _⟩
 case round =>
  obtain ⟨k,hk,rfl,HN,hbr⟩ := hrel
  have hbw := below_step hb5 hbr
  have bh6 := bh5.mono hbr
  have bf6 := bf5.mono hbr
  have bx6 := bx5.mono hbr
  have bs6 := bs5.mono hbr
  by_cases hlt : k < x.args.length
  ·have hlt2 : k < g.params.length := by have := HL.out; omega
   have hvk := H.out.hg.s _ (List.getElem_mem hlt)
   obtain ⟨bV,oV,rfl⟩ := avC H.out.hv hvk
   obtain ⟨kv,hkv,hkvl,hkvI,Hv⟩ := tyC H.out.hv hvk
   obtain ⟨eV,cV'⟩ := Hv _ hbw
   have HC : Hid (∀ y : Later wr,Calls Tryz.prog 307 #[.agg #[.slice AH cs.length cH],.string (tyOf f.vars x.args[k]),.string g.params[k]] y.W fun e w' => e = .returned (.bool (fitsB cs (tyOf f.vars x.args[k]) g.params[k])) ∧ Below y.W.heap.size y.W w') := fun y => HFI.out _ _ _ (below_step hbw y.h)
   have HG := Lib.hid (callG_at (cs := cs) (vars := f.vars) hlt hlt2)
   obtain ⟨bA,oA,rfl,hbA,a0⟩ := (H.out.ha.mono hbw).int_at hlt
   obtain ⟨bP,oP,rfl,hbP,p0⟩ := (hsP.mono hbw).str_at hlt2
   rw [hkv] at a0
   clear hvk Hv hkv
   generalize fitsB cs (tyOf f.vars x.args[k]) g.params[k] = fb at *
   generalize tyOf f.vars x.args[k] = ty at *
   have h0 := bh6.cell 0 rfl
   have hlh := bh6.lt
   have f4 := bf6.cell 4 rfl
   have fl := bf6.lt
   have x7 := bx6.cell 7 rfl
   have xl := bx6.lt
   have s2 := bs6.cell 2 rfl
   have sl := bs6.lt
   go_upto_region 17 with fail
   refine wp_region_later (by kernel_rfl) (by kernel_rfl) ?_
   try simp only [List.append_eq,List.cons_append,List.nil_append]
   repeat (go_big_quiet_step (first | (go_at_call 307; with_reducible exact Calls.later (HC.out _))))
   refine wpQuiet_nil ?_
   rintro _ ⟨y,rfl⟩
   cases fb with
   | false =>
    have HB : Hid (r = 8) := by show r = 8; rw [HR2.out,callE_hit HL.out hlt (by rw [HG.out]; rfl)]
    go_wp2_with fail
    go_ret
    exact ⟨by rw [HB.out]; rfl,below_step hbw y.h⟩
   | true =>
    have HN2 : Hid (∀ i,i < k + 1 → callG cs f.vars x g i = false) := fun i hi => by
     by_cases e : i = k
     ·subst e; rw [HG.out]; rfl
     ·exact HN.out i (by omega)
    clear HG HC
    go_wp2_with fail
    go_roundw
    case rel => exact ⟨k + 1,by omega,by go_num,HN2,below_step hbr y.h⟩
    case measure => simp [intOf]; omega
  ·have HZ : Hid (r = typed (callZ cs f.vars x g)) := by show r = _; rw [HR2.out,callE_pass HL.out (fun i hi => HN.out i (by omega))]
   clear HR2 HN
   have h0 := bh6.cell 0 rfl
   have hlh := bh6.lt
   have f4 := bf6.cell 4 rfl
   have fl := bf6.lt
   have x1 := bx6.cell 1 rfl
   have x7 := bx6.cell 7 rfl
   have xl := bx6.lt
   have s3 := bs6.cell 3 rfl
   have sl := bs6.lt
   go_upto_region 19 with fail
   rcases bspU (x.dst == -1) with hd1 | hd1
   rotate_left
   ·have hd2 : (x.dst != -1) = false := by rw [bne,hd1]; rfl
    have HB : Hid (r = 0) := by show r = 0; rw [HZ.out]; unfold callZ; rw [decide_eq_true (by simpa using hd1)]; rfl
    refine wp_region_later (by kernel_rfl) (by kernel_rfl) ?_
    try simp only [List.append_eq,List.cons_append,List.nil_append]
    repeat (go_big_quiet_step (fail))
    refine wpQuiet_nil ?_
    rintro _ ⟨y,rfl⟩
    go_wp2_with fail
    go_ret
    exact ⟨by rw [HB.out]; rfl,below_step hbw y.h⟩
   have hd2 : (x.dst != -1) = true := by rw [bne,hd1]; rfl
   have hvd := hdc.out (by simpa using hd1)
   have HZ2 : Hid (r = typed (!g.result.toList.isEmpty && fitsB cs g.result (tyOf f.vars x.dst))) := by show r = _; rw [HZ.out]; unfold callZ; rw [decide_eq_false (by simpa using hd1)]; rfl
   clear HZ hdc
   rcases empty_cases g.result with ⟨e1,e2,e3⟩ | ⟨e1,e2,e3⟩
   ·have HB : Hid (r = 8) := by show r = 8; rw [HZ2.out,e1]; rfl
    refine wp_region_later (by kernel_rfl) (by kernel_rfl) ?_
    try simp only [List.append_eq,List.cons_append,List.nil_append]
    repeat (go_big_quiet_step (fail))
    refine wpQuiet_nil ?_
    rintro _ ⟨y,rfl⟩
    go_wp2_with fail
    go_ret
    exact ⟨by rw [HB.out]; rfl,below_step hbw y.h⟩
   obtain ⟨bV,oV,rfl⟩ := avC H.out.hv hvd
   obtain ⟨kd,hkd,hkdl,hkdI,Hd⟩ := tyC H.out.hv hvd
   obtain ⟨eV,cD⟩ := Hd _ hbw
   have HZ3 : Hid (r = typed (fitsB cs g.result (tyOf f.vars x.dst))) := by show r = _; rw [HZ2.out,e1]; rfl
   have HC : Hid (∀ y : Later wr,Calls Tryz.prog 307 #[.agg #[.slice AH cs.length cH],.string g.result,.string (tyOf f.vars x.dst)] y.W fun e w' => e = .returned (.bool (fitsB cs g.result (tyOf f.vars x.dst))) ∧ Below y.W.heap.size y.W w') := fun y => HFI.out _ _ _ (below_step hbw y.h)
   rw [hkd] at x1 hd1 hd2
   clear hvd Hd HZ2
   generalize fitsB cs g.result (tyOf f.vars x.dst) = fb at *
   generalize tyOf f.vars x.dst = ty at *
   clear hkd
   refine wp_region_later (by kernel_rfl) (by kernel_rfl) ?_
   try simp only [List.append_eq,List.cons_append,List.nil_append]
   repeat (go_big_quiet_step (first | (go_at_call 307; with_reducible exact Calls.later (HC.out _))))
   refine wpQuiet_nil ?_
   rintro _ ⟨y,rfl⟩
   cases fb with
   | false =>
    go_wp2_with fail
    go_ret
    exact ⟨by rw [HZ3.out]; rfl,below_step hbw y.h⟩
   | true =>
    go_wp2_with fail
    go_ret
    exact ⟨by rw [HZ3.out]; rfl,below_step hbw y.h⟩
end Go.Proofs.YtmhdambkchlilaaGreatDoor
