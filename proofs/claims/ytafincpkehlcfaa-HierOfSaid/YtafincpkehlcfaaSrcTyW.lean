/-
  Chapter 10: the data of sources within the reach.
-/
import Derived.Test.YtafincpkehlcfaaSrcTy
import Derived.Test.YtafincpkehlcfaaHierTyW
namespace Go.Proofs.Ytafincpkehlcfaa
open Go.RowKit
set_option linter.unusedVariables false

def Mth.OkW (x : Mth) : Prop := (x.name.size ≤ maxLen) ∧ (True) ∧ (x.params.length * Try.prog.bytesOf 37 ≤ reachBytes ∧ x.params.length ≤ maxLen ∧ ∀ y ∈ x.params, y.OkW) ∧ (x.result.size ≤ maxLen) ∧ (True)
theorem opensWMth : OpensW Try.prog 48 Lay.mth Mth.OkW :=
  (OpensW.struct (L := Lay.str.and (Lay.bool.and ((Lay.fld).slice.and (Lay.str.and (Lay.any.and Lay.unit))))) Try.underlying48 (by kernel_rfl) (OpensFW.cons rfl (by kernel_rfl) (OpensW.str Try.underlying9) (OpensFW.cons rfl (by kernel_rfl) (OpensW.bool Try.underlying4) (OpensFW.cons rfl (by kernel_rfl) (OpensW.slice Try.underlying32 (by kernel_rfl) (by decide) opensWFld) (OpensFW.cons rfl (by kernel_rfl) (OpensW.str Try.underlying9) (OpensFW.cons rfl (by kernel_rfl) (OpensW.any Try.underlying46) OpensFW.nil)))))).turn (fun x => ⟨x.1, x.2.1, x.2.2.1, x.2.2.2.1, x.2.2.2.2.1⟩)
    (by rintro w ⟨x0, x1, x2, x3, x4, u⟩ vs ⟨us0, ts0, rfl, h0, us1, ts1, rfl, h1, us2, ts2, rfl, ⟨A2, c2, rfl, hc2, hs2⟩, us3, ts3, rfl, h3, us4, ts4, rfl, h4, hu⟩
        obtain rfl : us0 = [.string x0] := h0
        obtain rfl : us1 = [.bool x1] := h1
        obtain rfl : us3 = [.string x3] := h3
        obtain rfl : us4 = [.slice x4.A x4.n x4.c] := h4
        obtain rfl : ts4 = [] := hu
        exact ⟨A2, c2, rfl, hc2, hs2⟩)
    (by rintro ⟨x0, x1, x2, x3, x4, u⟩ ⟨o0, o1, o2, o3, o4, hu⟩; exact ⟨o0, o1, o2, o3, o4⟩)

def SCls.OkW (x : SCls) : Prop := (x.name.size ≤ maxLen) ∧ (x.super.size ≤ maxLen) ∧ (x.fields.length * Try.prog.bytesOf 37 ≤ reachBytes ∧ x.fields.length ≤ maxLen ∧ ∀ y ∈ x.fields, y.OkW) ∧ (x.methods.length * Try.prog.bytesOf 48 ≤ reachBytes ∧ x.methods.length ≤ maxLen ∧ ∀ y ∈ x.methods, y.OkW)
theorem opensWSCls : OpensW Try.prog 44 Lay.sCls SCls.OkW :=
  (OpensW.struct (L := Lay.str.and (Lay.str.and ((Lay.fld).slice.and ((Lay.mth).slice.and Lay.unit)))) Try.underlying44 (by kernel_rfl) (OpensFW.cons rfl (by kernel_rfl) (OpensW.str Try.underlying9) (OpensFW.cons rfl (by kernel_rfl) (OpensW.str Try.underlying9) (OpensFW.cons rfl (by kernel_rfl) (OpensW.slice Try.underlying32 (by kernel_rfl) (by decide) opensWFld) (OpensFW.cons rfl (by kernel_rfl) (OpensW.slice Try.underlying42 (by kernel_rfl) (by decide) opensWMth) OpensFW.nil))))).turn (fun x => ⟨x.1, x.2.1, x.2.2.1, x.2.2.2.1⟩)
    (by rintro w ⟨x0, x1, x2, x3, u⟩ vs ⟨us0, ts0, rfl, h0, us1, ts1, rfl, h1, us2, ts2, rfl, ⟨A2, c2, rfl, hc2, hs2⟩, us3, ts3, rfl, ⟨A3, c3, rfl, hc3, hs3⟩, hu⟩
        obtain rfl : us0 = [.string x0] := h0
        obtain rfl : us1 = [.string x1] := h1
        obtain rfl : ts3 = [] := hu
        exact ⟨A2, c2, A3, c3, rfl, hc2, hs2, hc3, hs3⟩)
    (by rintro ⟨x0, x1, x2, x3, u⟩ ⟨o0, o1, o2, o3, hu⟩; exact ⟨o0, o1, o2, o3⟩)

def Src.OkW (x : Src) : Prop := (x.classes.length * Try.prog.bytesOf 44 ≤ reachBytes ∧ x.classes.length ≤ maxLen ∧ ∀ y ∈ x.classes, y.OkW)
theorem opensWSrc : OpensW Try.prog 24 Lay.src Src.OkW :=
  (OpensW.struct (L := (Lay.sCls).slice.and Lay.unit) Try.underlying24 (by kernel_rfl) (OpensFW.cons rfl (by kernel_rfl) (OpensW.slice Try.underlying22 (by kernel_rfl) (by decide) opensWSCls) OpensFW.nil)).turn (fun x => ⟨x.1⟩)
    (by rintro w ⟨x0, u⟩ vs ⟨us0, ts0, rfl, ⟨A0, c0, rfl, hc0, hs0⟩, hu⟩
        obtain rfl : ts0 = [] := hu
        exact ⟨A0, c0, rfl, hc0, hs0⟩)
    (by rintro ⟨x0, u⟩ ⟨o0, hu⟩; exact o0)

end Go.Proofs.Ytafincpkehlcfaa
