/-
  Chapter 42: rules, protocols, policies as data, within the reach.
-/
import Derived.Test.YthabojhnliomnaaGreatDoorPolTy
import Derived.Test.YthabojhnliomnaaGreatDoorOpenW
namespace Go.Proofs.YthabojhnliomnaaGreatDoor
open Go.RowKit
set_option linter.unusedVariables false

def Acp.OkW (x : Acp) : Prop := (I64 x.root) ∧ (I64 x.n) ∧ (x.fields.length * Tryz.prog.bytesOf 9 ≤ reachBytes ∧ x.fields.length ≤ maxLen ∧ ∀ y ∈ x.fields, y.size ≤ maxLen) ∧ (True)
theorem opensWAcp : OpensW Tryz.prog 49 Lay.acp Acp.OkW :=
  (OpensW.struct (L := Lay.int.and (Lay.int.and ((Lay.str).slice.and (Lay.bool.and Lay.unit)))) Tryz.underlying49 (by kernel_rfl) (OpensFW.cons rfl (by kernel_rfl) (OpensW.int Tryz.underlying3) (OpensFW.cons rfl (by kernel_rfl) (OpensW.int Tryz.underlying3) (OpensFW.cons rfl (by kernel_rfl) (OpensW.slice Tryz.underlying38 (by kernel_rfl) (by decide) (OpensW.str Tryz.underlying9)) (OpensFW.cons rfl (by kernel_rfl) (OpensW.bool Tryz.underlying4) OpensFW.nil))))).turn (fun x => ⟨x.1, x.2.1, x.2.2.1, x.2.2.2.1⟩)
    (by rintro w ⟨x0, x1, x2, x3, u⟩ vs ⟨us0, ts0, rfl, h0, us1, ts1, rfl, h1, us2, ts2, rfl, ⟨A2, c2, rfl, hc2, hs2⟩, us3, ts3, rfl, h3, hu⟩
        obtain rfl : us0 = [.int .i64 x0] := h0
        obtain rfl : us1 = [.int .i64 x1] := h1
        obtain rfl : us3 = [.bool x3] := h3
        obtain rfl : ts3 = [] := hu
        exact ⟨A2, c2, rfl, hc2, hs2⟩)
    (by rintro ⟨x0, x1, x2, x3, u⟩ ⟨o0, o1, o2, o3, hu⟩; exact ⟨o0, o1, o2, o3⟩)

def Rul.OkW (x : Rul) : Prop := (I64 x.kind) ∧ (x.cls.size ≤ maxLen) ∧ (x.mth.size ≤ maxLen) ∧ (x.pth.OkW) ∧ (x.tag.size ≤ maxLen)
theorem opensWRul : OpensW Tryz.prog 51 Lay.rul Rul.OkW :=
  (OpensW.struct (L := Lay.int.and (Lay.str.and (Lay.str.and (Lay.acp.and (Lay.str.and Lay.unit))))) Tryz.underlying51 (by kernel_rfl) (OpensFW.cons rfl (by kernel_rfl) (OpensW.int Tryz.underlying3) (OpensFW.cons rfl (by kernel_rfl) (OpensW.str Tryz.underlying9) (OpensFW.cons rfl (by kernel_rfl) (OpensW.str Tryz.underlying9) (OpensFW.cons rfl (by kernel_rfl) opensWAcp (OpensFW.cons rfl (by kernel_rfl) (OpensW.str Tryz.underlying9) OpensFW.nil)))))).turn (fun x => ⟨x.1, x.2.1, x.2.2.1, x.2.2.2.1, x.2.2.2.2.1⟩)
    (by rintro w ⟨x0, x1, x2, x3, x4, u⟩ vs ⟨us0, ts0, rfl, h0, us1, ts1, rfl, h1, us2, ts2, rfl, h2, us3, ts3, rfl, h3, us4, ts4, rfl, h4, hu⟩
        obtain rfl : us0 = [.int .i64 x0] := h0
        obtain rfl : us1 = [.string x1] := h1
        obtain rfl : us2 = [.string x2] := h2
        obtain rfl : us4 = [.string x4] := h4
        obtain rfl : ts4 = [] := hu
        exact ⟨us3, by simp, h3⟩)
    (by rintro ⟨x0, x1, x2, x3, x4, u⟩ ⟨o0, o1, o2, o3, o4, hu⟩; exact ⟨o0, o1, o2, o3, o4⟩)

def Mov.OkW (x : Mov) : Prop := (I64 x.src) ∧ (x.mth.size ≤ maxLen) ∧ (I64 x.dst)
theorem opensWMov : OpensW Tryz.prog 103 Lay.mov Mov.OkW :=
  (OpensW.struct (L := Lay.int.and (Lay.str.and (Lay.int.and Lay.unit))) Tryz.underlying103 (by kernel_rfl) (OpensFW.cons rfl (by kernel_rfl) (OpensW.int Tryz.underlying3) (OpensFW.cons rfl (by kernel_rfl) (OpensW.str Tryz.underlying9) (OpensFW.cons rfl (by kernel_rfl) (OpensW.int Tryz.underlying3) OpensFW.nil)))).turn (fun x => ⟨x.1, x.2.1, x.2.2.1⟩)
    (by rintro w ⟨x0, x1, x2, u⟩ vs ⟨us0, ts0, rfl, h0, us1, ts1, rfl, h1, us2, ts2, rfl, h2, hu⟩
        obtain rfl : us0 = [.int .i64 x0] := h0
        obtain rfl : us1 = [.string x1] := h1
        obtain rfl : us2 = [.int .i64 x2] := h2
        obtain rfl : ts2 = [] := hu
        rfl)
    (by rintro ⟨x0, x1, x2, u⟩ ⟨o0, o1, o2, hu⟩; exact ⟨o0, o1, o2⟩)

def Ptc.OkW (x : Ptc) : Prop := (x.cls.size ≤ maxLen) ∧ (x.states.length * Tryz.prog.bytesOf 9 ≤ reachBytes ∧ x.states.length ≤ maxLen ∧ ∀ y ∈ x.states, y.size ≤ maxLen) ∧ (I64 x.start) ∧ (I64 x.err) ∧ (x.moves.length * Tryz.prog.bytesOf 103 ≤ reachBytes ∧ x.moves.length ≤ maxLen ∧ ∀ y ∈ x.moves, y.OkW)
theorem opensWPtc : OpensW Tryz.prog 63 Lay.ptc Ptc.OkW :=
  (OpensW.struct (L := Lay.str.and ((Lay.str).slice.and (Lay.int.and (Lay.int.and ((Lay.mov).slice.and Lay.unit))))) Tryz.underlying63 (by kernel_rfl) (OpensFW.cons rfl (by kernel_rfl) (OpensW.str Tryz.underlying9) (OpensFW.cons rfl (by kernel_rfl) (OpensW.slice Tryz.underlying38 (by kernel_rfl) (by decide) (OpensW.str Tryz.underlying9)) (OpensFW.cons rfl (by kernel_rfl) (OpensW.int Tryz.underlying3) (OpensFW.cons rfl (by kernel_rfl) (OpensW.int Tryz.underlying3) (OpensFW.cons rfl (by kernel_rfl) (OpensW.slice Tryz.underlying61 (by kernel_rfl) (by decide) opensWMov) OpensFW.nil)))))).turn (fun x => ⟨x.1, x.2.1, x.2.2.1, x.2.2.2.1, x.2.2.2.2.1⟩)
    (by rintro w ⟨x0, x1, x2, x3, x4, u⟩ vs ⟨us0, ts0, rfl, h0, us1, ts1, rfl, ⟨A1, c1, rfl, hc1, hs1⟩, us2, ts2, rfl, h2, us3, ts3, rfl, h3, us4, ts4, rfl, ⟨A4, c4, rfl, hc4, hs4⟩, hu⟩
        obtain rfl : us0 = [.string x0] := h0
        obtain rfl : us2 = [.int .i64 x2] := h2
        obtain rfl : us3 = [.int .i64 x3] := h3
        obtain rfl : ts4 = [] := hu
        exact ⟨A1, c1, A4, c4, rfl, hc1, hs1, hc4, hs4⟩)
    (by rintro ⟨x0, x1, x2, x3, x4, u⟩ ⟨o0, o1, o2, o3, o4, hu⟩; exact ⟨o0, o1, o2, o3, o4⟩)

def Pol.OkW (x : Pol) : Prop := (x.rules.length * Tryz.prog.bytesOf 51 ≤ reachBytes ∧ x.rules.length ≤ maxLen ∧ ∀ y ∈ x.rules, y.OkW) ∧ (x.protocols.length * Tryz.prog.bytesOf 63 ≤ reachBytes ∧ x.protocols.length ≤ maxLen ∧ ∀ y ∈ x.protocols, y.OkW)
theorem opensWPol : OpensW Tryz.prog 25 Lay.pol Pol.OkW :=
  (OpensW.struct (L := (Lay.rul).slice.and ((Lay.ptc).slice.and Lay.unit)) Tryz.underlying25 (by kernel_rfl) (OpensFW.cons rfl (by kernel_rfl) (OpensW.slice Tryz.underlying22 (by kernel_rfl) (by decide) opensWRul) (OpensFW.cons rfl (by kernel_rfl) (OpensW.slice Tryz.underlying23 (by kernel_rfl) (by decide) opensWPtc) OpensFW.nil))).turn (fun x => ⟨x.1, x.2.1⟩)
    (by rintro w ⟨x0, x1, u⟩ vs ⟨us0, ts0, rfl, ⟨A0, c0, rfl, hc0, hs0⟩, us1, ts1, rfl, ⟨A1, c1, rfl, hc1, hs1⟩, hu⟩
        obtain rfl : ts1 = [] := hu
        exact ⟨A0, c0, A1, c1, rfl, hc0, hs0, hc1, hs1⟩)
    (by rintro ⟨x0, x1, u⟩ ⟨o0, o1, hu⟩; exact ⟨o0, o1⟩)

end Go.Proofs.YthabojhnliomnaaGreatDoor
