/-
  Units, of which the hierarchy alone is read: within the reach.
-/
import Derived.Test.YthabojhnliomnaaGreatDoorUniTy
import Derived.Test.YthabojhnliomnaaGreatDoorHierTyW
namespace Go.Proofs.YthabojhnliomnaaGreatDoor
open Go.RowKit
set_option linter.unusedVariables false

def Uni.OkW (x : Uni) : Prop := (x.hier.OkW) ∧ (True) ∧ (I64 x.main)
theorem opensWUni : OpensW Tryz.prog 45 Lay.uni Uni.OkW :=
  (OpensW.struct (L := Lay.hi.and (Lay.any.and (Lay.int.and Lay.unit))) Tryz.underlying45 (by kernel_rfl) (OpensFW.cons rfl (by kernel_rfl) opensWHi (OpensFW.cons rfl (by kernel_rfl) (OpensW.any Tryz.underlying43) (OpensFW.cons rfl (by kernel_rfl) (OpensW.int Tryz.underlying3) OpensFW.nil)))).turn (fun x => ⟨x.1, x.2.1, x.2.2.1⟩)
    (by rintro w ⟨x0, x1, x2, u⟩ vs ⟨us0, ts0, rfl, h0, us1, ts1, rfl, h1, us2, ts2, rfl, h2, hu⟩
        obtain rfl : us1 = [.slice x1.A x1.n x1.c] := h1
        obtain rfl : us2 = [.int .i64 x2] := h2
        obtain rfl : ts2 = [] := hu
        exact ⟨us0, by simp, h0⟩)
    (by rintro ⟨x0, x1, x2, u⟩ ⟨o0, o1, o2, hu⟩; exact ⟨o0, o1, o2⟩)

end Go.Proofs.YthabojhnliomnaaGreatDoor
