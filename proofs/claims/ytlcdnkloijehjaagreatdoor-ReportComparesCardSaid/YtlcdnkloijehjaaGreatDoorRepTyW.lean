/-
  Chapter 47: places, findings, reports as data, within the reach.
-/
import Derived.Test.YtlcdnkloijehjaaGreatDoorRepTy
import Derived.Test.YtlcdnkloijehjaaGreatDoorOpenW
namespace Go.Proofs.YtlcdnkloijehjaaGreatDoor
open Go.RowKit Go.ChangeShapes Go.WideShapes Go.Deep
set_option linter.unusedVariables false

theorem OpensW.strR {P : Program} {t : TypeId} (ht : P.underlying t = some .string) : OpensW P t Lay.str (fun s => s.size ≤ reachBytes) := fun H enc w spare held fuel cs x h hl => by
  obtain ⟨s, rfl, hd, hs⟩ := DataW.trod_string ht h
  refine ⟨s, rfl, ?_⟩
  have := hl s.data.toList.length (by rw [hd]; simp [DataW.weights])
  show s.size ≤ reachBytes
  rw [show s.size = s.data.toList.length from (by rw [Array.length_toList]; rfl)]
  exact this
def Plc.OkW (x : Plc) : Prop := (x.cls.size ≤ reachBytes) ∧ (x.mth.size ≤ reachBytes) ∧ (I64 x.ins)
theorem opensWPlc : OpensW Tryz.prog 43 Lay.plc Plc.OkW :=
  (OpensW.struct (L := Lay.str.and (Lay.str.and (Lay.int.and Lay.unit))) Tryz.underlying43 (by kernel_rfl) (OpensFW.cons rfl (by kernel_rfl) (OpensW.strR Tryz.underlying9) (OpensFW.cons rfl (by kernel_rfl) (OpensW.strR Tryz.underlying9) (OpensFW.cons rfl (by kernel_rfl) (OpensW.int Tryz.underlying3) OpensFW.nil)))).turn (fun x => ⟨x.1, x.2.1, x.2.2.1⟩)
    (by rintro w ⟨x0, x1, x2, u⟩ vs ⟨us0, ts0, rfl, h0, us1, ts1, rfl, h1, us2, ts2, rfl, h2, hu⟩
        obtain rfl : us0 = [.string x0] := h0
        obtain rfl : us1 = [.string x1] := h1
        obtain rfl : us2 = [.int .i64 x2] := h2
        obtain rfl : ts2 = [] := hu
        rfl)
    (by rintro ⟨x0, x1, x2, u⟩ ⟨o0, o1, o2, hu⟩; exact ⟨o0, o1, o2⟩)

def Fnd.OkW (x : Fnd) : Prop := (I64 x.kind) ∧ (x.plc.OkW) ∧ (x.what.size ≤ reachBytes) ∧ (x.path.length * Tryz.prog.bytesOf 43 ≤ reachBytes ∧ x.path.length ≤ maxLen ∧ ∀ y ∈ x.path, y.OkW)
theorem opensWFnd : OpensW Tryz.prog 46 Lay.fnd Fnd.OkW :=
  (OpensW.struct (L := Lay.int.and (Lay.plc.and (Lay.str.and ((Lay.plc).slice.and Lay.unit)))) Tryz.underlying46 (by kernel_rfl) (OpensFW.cons rfl (by kernel_rfl) (OpensW.int Tryz.underlying3) (OpensFW.cons rfl (by kernel_rfl) opensWPlc (OpensFW.cons rfl (by kernel_rfl) (OpensW.strR Tryz.underlying9) (OpensFW.cons rfl (by kernel_rfl) (OpensW.slice Tryz.underlying44 (by kernel_rfl) (by decide) opensWPlc) OpensFW.nil))))).turn (fun x => ⟨x.1, x.2.1, x.2.2.1, x.2.2.2.1⟩)
    (by rintro w ⟨x0, x1, x2, x3, u⟩ vs ⟨us0, ts0, rfl, h0, us1, ts1, rfl, h1, us2, ts2, rfl, h2, us3, ts3, rfl, ⟨A3, c3, rfl, hc3, hs3⟩, hu⟩
        obtain rfl : us0 = [.int .i64 x0] := h0
        obtain rfl : us2 = [.string x2] := h2
        obtain rfl : ts3 = [] := hu
        exact ⟨A3, c3, us1, by simp, hc3, hs3, h1⟩)
    (by rintro ⟨x0, x1, x2, x3, u⟩ ⟨o0, o1, o2, o3, hu⟩; exact ⟨o0, o1, o2, o3⟩)

def Hdn.OkW (x : Hdn) : Prop := (x.f.OkW) ∧ (I64 x.note)
theorem opensWHdn : OpensW Tryz.prog 48 Lay.hdn Hdn.OkW :=
  (OpensW.struct (L := Lay.fnd.and (Lay.int.and Lay.unit)) Tryz.underlying48 (by kernel_rfl) (OpensFW.cons rfl (by kernel_rfl) opensWFnd (OpensFW.cons rfl (by kernel_rfl) (OpensW.int Tryz.underlying3) OpensFW.nil))).turn (fun x => ⟨x.1, x.2.1⟩)
    (by rintro w ⟨x0, x1, u⟩ vs ⟨us0, ts0, rfl, h0, us1, ts1, rfl, h1, hu⟩
        obtain rfl : us1 = [.int .i64 x1] := h1
        obtain rfl : ts1 = [] := hu
        exact ⟨us0, by simp, h0⟩)
    (by rintro ⟨x0, x1, u⟩ ⟨o0, o1, hu⟩; exact ⟨o0, o1⟩)

def Rpt.OkW (x : Rpt) : Prop := (x.opn.length * Tryz.prog.bytesOf 46 ≤ reachBytes ∧ x.opn.length ≤ maxLen ∧ ∀ y ∈ x.opn, y.OkW) ∧ (x.hdn.length * Tryz.prog.bytesOf 48 ≤ reachBytes ∧ x.hdn.length ≤ maxLen ∧ ∀ y ∈ x.hdn, y.OkW) ∧ (x.uns.length * Tryz.prog.bytesOf 3 ≤ reachBytes ∧ x.uns.length ≤ maxLen ∧ ∀ y ∈ x.uns, I64 y)
theorem opensWRpt : OpensW Tryz.prog 26 Lay.rpt Rpt.OkW :=
  (OpensW.struct (L := (Lay.fnd).slice.and ((Lay.hdn).slice.and ((Lay.int).slice.and Lay.unit))) Tryz.underlying26 (by kernel_rfl) (OpensFW.cons rfl (by kernel_rfl) (OpensW.slice Tryz.underlying22 (by kernel_rfl) (by decide) opensWFnd) (OpensFW.cons rfl (by kernel_rfl) (OpensW.slice Tryz.underlying23 (by kernel_rfl) (by decide) opensWHdn) (OpensFW.cons rfl (by kernel_rfl) (OpensW.slice Tryz.underlying24 (by kernel_rfl) (by decide) (OpensW.int Tryz.underlying3)) OpensFW.nil)))).turn (fun x => ⟨x.1, x.2.1, x.2.2.1⟩)
    (by rintro w ⟨x0, x1, x2, u⟩ vs ⟨us0, ts0, rfl, ⟨A0, c0, rfl, hc0, hs0⟩, us1, ts1, rfl, ⟨A1, c1, rfl, hc1, hs1⟩, us2, ts2, rfl, ⟨A2, c2, rfl, hc2, hs2⟩, hu⟩
        obtain rfl : ts2 = [] := hu
        exact ⟨A0, c0, A1, c1, A2, c2, rfl, hc0, hs0, hc1, hs1, hc2, hs2⟩)
    (by rintro ⟨x0, x1, x2, u⟩ ⟨o0, o1, o2, hu⟩; exact ⟨o0, o1, o2⟩)

end Go.Proofs.YtlcdnkloijehjaaGreatDoor
