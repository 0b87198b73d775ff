/-
  Units, of which the hierarchy alone is read.
-/
import Derived.Test.YthabojhnliomnaaGreatDoorSrcAny
import Derived.Test.YthabojhnliomnaaGreatDoorHierTy
namespace Go.Proofs.YthabojhnliomnaaGreatDoor
open Go.RowKit
set_option linter.unusedVariables false

structure Uni where
  hier : Hi
  funcs : AnySl
  main : Int
def Lay.uni : Lay Uni :=
  { size := 3, rep := fun w x vs => ∃ (u0 : List Value), vs = u0 ++ ([.slice x.funcs.A x.funcs.n x.funcs.c, .int .i64 x.main]) ∧ Lay.hi.rep w x.hier u0,
    len := fun ⟨u0, e, hr0⟩ => by rw [e]; simp only [List.length_append, List.length_cons, List.length_nil, Lay.hi.len hr0]; rfl,
    mono := fun hb ⟨u0, e, hr0⟩ => ⟨u0, e, Lay.hi.mono hb hr0⟩ }
def Uni.Ok (x : Uni) : Prop := (x.hier.Ok) ∧ (True) ∧ (I64 x.main)
theorem opensUni : Opens Tryz.prog 45 Lay.uni Uni.Ok :=
  (Opens.struct (L := Lay.hi.and (Lay.any.and (Lay.int.and Lay.unit))) Tryz.underlying45 (by kernel_rfl) (OpensF.cons rfl (by kernel_rfl) opensHi (OpensF.cons rfl (by kernel_rfl) (Opens.any Tryz.underlying43) (OpensF.cons rfl (by kernel_rfl) (Opens.int Tryz.underlying3) OpensF.nil)))).turn (fun x => ⟨x.1, x.2.1, x.2.2.1⟩)
    (by rintro w ⟨x0, x1, x2, u⟩ vs ⟨us0, ts0, rfl, h0, us1, ts1, rfl, h1, us2, ts2, rfl, h2, hu⟩
        obtain rfl : us1 = [.slice x1.A x1.n x1.c] := h1
        obtain rfl : us2 = [.int .i64 x2] := h2
        obtain rfl : ts2 = [] := hu
        exact ⟨us0, by simp, h0⟩)
    (by rintro ⟨x0, x1, x2, u⟩ ⟨o0, o1, o2, hu⟩; exact ⟨o0, o1, o2⟩)

end Go.Proofs.YthabojhnliomnaaGreatDoor
