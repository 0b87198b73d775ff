/-
  Chapter 10: the data of class hierarchies within the reach.
-/
import Derived.Test.YthabojhnliomnaaGreatDoorHierTy
import Derived.Test.YthabojhnliomnaaGreatDoorOpenW
namespace Go.Proofs.YthabojhnliomnaaGreatDoor
open Go.RowKit
set_option linter.unusedVariables false

def Fld.OkW (x : Fld) : Prop := (x.name.size ≤ maxLen) ∧ (x.typ.size ≤ maxLen)
theorem opensWFld : OpensW Tryz.prog 225 Lay.fld Fld.OkW :=
  (OpensW.struct (L := Lay.str.and (Lay.str.and Lay.unit)) Tryz.underlying225 (by kernel_rfl) (OpensFW.cons rfl (by kernel_rfl) (OpensW.str Tryz.underlying9) (OpensFW.cons rfl (by kernel_rfl) (OpensW.str Tryz.underlying9) OpensFW.nil))).turn (fun x => ⟨x.1, x.2.1⟩)
    (by rintro w ⟨x0, x1, u⟩ vs ⟨us0, ts0, rfl, h0, us1, ts1, rfl, h1, hu⟩
        obtain rfl : us0 = [.string x0] := h0
        obtain rfl : us1 = [.string x1] := h1
        obtain rfl : ts1 = [] := hu
        rfl)
    (by rintro ⟨x0, x1, u⟩ ⟨o0, o1, hu⟩; exact ⟨o0, o1⟩)

def Sg.OkW (x : Sg) : Prop := (x.name.size ≤ maxLen) ∧ (True) ∧ (x.params.length * Tryz.prog.bytesOf 9 ≤ reachBytes ∧ x.params.length ≤ maxLen ∧ ∀ y ∈ x.params, y.size ≤ maxLen) ∧ (x.result.size ≤ maxLen)
theorem opensWSg : OpensW Tryz.prog 98 Lay.sg Sg.OkW :=
  (OpensW.struct (L := Lay.str.and (Lay.bool.and ((Lay.str).slice.and (Lay.str.and Lay.unit)))) Tryz.underlying98 (by kernel_rfl) (OpensFW.cons rfl (by kernel_rfl) (OpensW.str Tryz.underlying9) (OpensFW.cons rfl (by kernel_rfl) (OpensW.bool Tryz.underlying4) (OpensFW.cons rfl (by kernel_rfl) (OpensW.slice Tryz.underlying38 (by kernel_rfl) (by decide) (OpensW.str Tryz.underlying9)) (OpensFW.cons rfl (by kernel_rfl) (OpensW.str Tryz.underlying9) OpensFW.nil))))).turn (fun x => ⟨x.1, x.2.1, x.2.2.1, x.2.2.2.1⟩)
    (by rintro w ⟨x0, x1, x2, x3, u⟩ vs ⟨us0, ts0, rfl, h0, us1, ts1, rfl, h1, us2, ts2, rfl, ⟨A2, c2, rfl, hc2, hs2⟩, us3, ts3, rfl, h3, hu⟩
        obtain rfl : us0 = [.string x0] := h0
        obtain rfl : us1 = [.bool x1] := h1
        obtain rfl : us3 = [.string x3] := h3
        obtain rfl : ts3 = [] := hu
        exact ⟨A2, c2, rfl, hc2, hs2⟩)
    (by rintro ⟨x0, x1, x2, x3, u⟩ ⟨o0, o1, o2, o3, hu⟩; exact ⟨o0, o1, o2, o3⟩)

def Cls.OkW (x : Cls) : Prop := (x.name.size ≤ maxLen) ∧ (x.super.size ≤ maxLen) ∧ (x.fields.length * Tryz.prog.bytesOf 225 ≤ reachBytes ∧ x.fields.length ≤ maxLen ∧ ∀ y ∈ x.fields, y.OkW) ∧ (x.methods.length * Tryz.prog.bytesOf 98 ≤ reachBytes ∧ x.methods.length ≤ maxLen ∧ ∀ y ∈ x.methods, y.OkW)
theorem opensWCls : OpensW Tryz.prog 113 Lay.cls Cls.OkW :=
  (OpensW.struct (L := Lay.str.and (Lay.str.and ((Lay.fld).slice.and ((Lay.sg).slice.and Lay.unit)))) Tryz.underlying113 (by kernel_rfl) (OpensFW.cons rfl (by kernel_rfl) (OpensW.str Tryz.underlying9) (OpensFW.cons rfl (by kernel_rfl) (OpensW.str Tryz.underlying9) (OpensFW.cons rfl (by kernel_rfl) (OpensW.slice Tryz.underlying110 (by kernel_rfl) (by decide) opensWFld) (OpensFW.cons rfl (by kernel_rfl) (OpensW.slice Tryz.underlying111 (by kernel_rfl) (by decide) opensWSg) OpensFW.nil))))).turn (fun x => ⟨x.1, x.2.1, x.2.2.1, x.2.2.2.1⟩)
    (by rintro w ⟨x0, x1, x2, x3, u⟩ vs ⟨us0, ts0, rfl, h0, us1, ts1, rfl, h1, us2, ts2, rfl, ⟨A2, c2, rfl, hc2, hs2⟩, us3, ts3, rfl, ⟨A3, c3, rfl, hc3, hs3⟩, hu⟩
        obtain rfl : us0 = [.string x0] := h0
        obtain rfl : us1 = [.string x1] := h1
        obtain rfl : ts3 = [] := hu
        exact ⟨A2, c2, A3, c3, rfl, hc2, hs2, hc3, hs3⟩)
    (by rintro ⟨x0, x1, x2, x3, u⟩ ⟨o0, o1, o2, o3, hu⟩; exact ⟨o0, o1, o2, o3⟩)

def Hi.OkW (x : Hi) : Prop := (x.classes.length * Tryz.prog.bytesOf 113 ≤ reachBytes ∧ x.classes.length ≤ maxLen ∧ ∀ y ∈ x.classes, y.OkW)
theorem opensWHi : OpensW Tryz.prog 42 Lay.hi Hi.OkW :=
  (OpensW.struct (L := (Lay.cls).slice.and Lay.unit) Tryz.underlying42 (by kernel_rfl) (OpensFW.cons rfl (by kernel_rfl) (OpensW.slice Tryz.underlying40 (by kernel_rfl) (by decide) opensWCls) OpensFW.nil)).turn (fun x => ⟨x.1⟩)
    (by rintro w ⟨x0, u⟩ vs ⟨us0, ts0, rfl, ⟨A0, c0, rfl, hc0, hs0⟩, hu⟩
        obtain rfl : ts0 = [] := hu
        exact ⟨A0, c0, rfl, hc0, hs0⟩)
    (by rintro ⟨x0, u⟩ ⟨o0, hu⟩; exact o0)

end Go.Proofs.YthabojhnliomnaaGreatDoor
