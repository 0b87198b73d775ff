/-
  Chapter 47: places, findings, reports as data.
-/
import Derived.Test.YtlcdnkloijehjaaGreatDoorProg
import Derived.Test.YtlcdnkloijehjaaGreatDoorOpen
namespace Go.Proofs.YtlcdnkloijehjaaGreatDoor
open Go.RowKit
set_option linter.unusedVariables false

structure Plc where
  cls : ByteArray
  mth : ByteArray
  ins : Int
def cellsPlc (x : Plc) : List Value := [.string x.cls, .string x.mth, .int .i64 x.ins]
theorem cellsPlc_ok : CellsOk cellsPlc 3 := ⟨fun _ => rfl, fun _ u hu => by simp [cellsPlc] at hu; rcases hu with rfl | rfl | rfl <;> rfl⟩
def Lay.plc : Lay Plc := Lay.plain 3 cellsPlc fun _ => rfl
theorem Sl.plc_at {w : World} {A : Option Addr} {l : List Plc} (h : Sl Lay.plc w A l) {i : Nat} (hi : i < l.length) : ∃ (b o : Nat), A = some ⟨b, o, none⟩ ∧ b < w.heap.size ∧ w.cell? ⟨b, o + i * 3, none⟩ = some (.string l[i].cls) ∧ w.cell? ⟨b, o + i * 3 + 1, none⟩ = some (.string l[i].mth) ∧ w.cell? ⟨b, o + i * 3 + 2, none⟩ = some (.int .i64 l[i].ins) := by
  obtain ⟨b, o, vs, e, hlt, hr, hc⟩ := h i l[i] (List.getElem?_eq_getElem hi)
  have hr' : vs = cellsPlc l[i] := hr
  subst hr'
  exact ⟨b, o, e, hlt, hc 0 _ rfl, hc 1 _ rfl, hc 2 _ rfl⟩
def Plc.Ok (x : Plc) : Prop := (x.cls.size ≤ maxLen) ∧ (x.mth.size ≤ maxLen) ∧ (I64 x.ins)
theorem opensPlc : Opens Tryz.prog 43 Lay.plc Plc.Ok :=
  (Opens.struct (L := Lay.str.and (Lay.str.and (Lay.int.and Lay.unit))) Tryz.underlying43 (by kernel_rfl) (OpensF.cons rfl (by kernel_rfl) (Opens.str Tryz.underlying9) (OpensF.cons rfl (by kernel_rfl) (Opens.str Tryz.underlying9) (OpensF.cons rfl (by kernel_rfl) (Opens.int Tryz.underlying3) OpensF.nil)))).turn (fun x => ⟨x.1, x.2.1, x.2.2.1⟩)
    (by rintro w ⟨x0, x1, x2, u⟩ vs ⟨us0, ts0, rfl, h0, us1, ts1, rfl, h1, us2, ts2, rfl, h2, hu⟩
        obtain rfl : us0 = [.string x0] := h0
        obtain rfl : us1 = [.string x1] := h1
        obtain rfl : us2 = [.int .i64 x2] := h2
        obtain rfl : ts2 = [] := hu
        rfl)
    (by rintro ⟨x0, x1, x2, u⟩ ⟨o0, o1, o2, hu⟩; exact ⟨o0, o1, o2⟩)

structure Fnd where
  kind : Int
  plc : Plc
  what : ByteArray
  path : List Plc
def Lay.fnd : Lay Fnd :=
  { size := 6, rep := fun w x vs => ∃ (A3 : Option Addr) (c3 : Nat) (u1 : List Value), vs = [.int .i64 x.kind] ++ (u1 ++ ([.string x.what, .slice A3 x.path.length c3])) ∧ x.path.length ≤ c3 ∧ Sl Lay.plc w A3 x.path ∧ Lay.plc.rep w x.plc u1,
    len := fun ⟨A3, c3, u1, e, hc3, hs3, hr1⟩ => by rw [e]; simp only [List.length_append, List.length_cons, List.length_nil, Lay.plc.len hr1]; rfl,
    mono := fun hb ⟨A3, c3, u1, e, hc3, hs3, hr1⟩ => ⟨A3, c3, u1, e, hc3, hs3.mono hb, Lay.plc.mono hb hr1⟩ }
def Fnd.Ok (x : Fnd) : Prop := (I64 x.kind) ∧ (x.plc.Ok) ∧ (x.what.size ≤ maxLen) ∧ (x.path.length ≤ maxLen ∧ ∀ y ∈ x.path, y.Ok)
theorem opensFnd : Opens Tryz.prog 46 Lay.fnd Fnd.Ok :=
  (Opens.struct (L := Lay.int.and (Lay.plc.and (Lay.str.and ((Lay.plc).slice.and Lay.unit)))) Tryz.underlying46 (by kernel_rfl) (OpensF.cons rfl (by kernel_rfl) (Opens.int Tryz.underlying3) (OpensF.cons rfl (by kernel_rfl) opensPlc (OpensF.cons rfl (by kernel_rfl) (Opens.str Tryz.underlying9) (OpensF.cons rfl (by kernel_rfl) (Opens.slice Tryz.underlying44 (by kernel_rfl) (by decide) opensPlc) OpensF.nil))))).turn (fun x => ⟨x.1, x.2.1, x.2.2.1, x.2.2.2.1⟩)
    (by rintro w ⟨x0, x1, x2, x3, u⟩ vs ⟨us0, ts0, rfl, h0, us1, ts1, rfl, h1, us2, ts2, rfl, h2, us3, ts3, rfl, ⟨A3, c3, rfl, hc3, hs3⟩, hu⟩
        obtain rfl : us0 = [.int .i64 x0] := h0
        obtain rfl : us2 = [.string x2] := h2
        obtain rfl : ts3 = [] := hu
        exact ⟨A3, c3, us1, by simp, hc3, hs3, h1⟩)
    (by rintro ⟨x0, x1, x2, x3, u⟩ ⟨o0, o1, o2, o3, hu⟩; exact ⟨o0, o1, o2, o3⟩)

theorem Fnd.cells {w : World} {x : Fnd} {vs : List Value} (h : Lay.fnd.rep w x vs) : ∃ (A3 : Option Addr) (c3 : Nat), vs = [.int .i64 x.kind, .string x.plc.cls, .string x.plc.mth, .int .i64 x.plc.ins, .string x.what, .slice A3 x.path.length c3] ∧ x.path.length ≤ c3 ∧ Sl Lay.plc w A3 x.path := by
  obtain ⟨A3, c3, u1, rfl, hc3, hs3, hr1⟩ := h
  obtain rfl : u1 = cellsPlc x.plc := hr1
  exact ⟨A3, c3, rfl, hc3, hs3⟩
theorem Sl.fnd_at {w : World} {A : Option Addr} {l : List Fnd} (h : Sl Lay.fnd w A l) {i : Nat} (hi : i < l.length) : ∃ (b o : Nat) (A3 : Option Addr) (c3 : Nat), A = some ⟨b, o, none⟩ ∧ b < w.heap.size ∧ w.cell? ⟨b, o + i * 6, none⟩ = some (.int .i64 l[i].kind) ∧ w.cell? ⟨b, o + i * 6 + 1, none⟩ = some (.string l[i].plc.cls) ∧ w.cell? ⟨b, o + i * 6 + 2, none⟩ = some (.string l[i].plc.mth) ∧
    w.cell? ⟨b, o + i * 6 + 3, none⟩ = some (.int .i64 l[i].plc.ins) ∧ w.cell? ⟨b, o + i * 6 + 4, none⟩ = some (.string l[i].what) ∧ w.cell? ⟨b, o + i * 6 + 5, none⟩ = some (.slice A3 l[i].path.length c3) ∧ l[i].path.length ≤ c3 ∧ Sl Lay.plc w A3 l[i].path := by
  obtain ⟨b, o, vs, e, hlt, hr, hc⟩ := h i l[i] (List.getElem?_eq_getElem hi)
  obtain ⟨A3, c3, rfl, hc3, hs3⟩ := Fnd.cells hr
  exact ⟨b, o, A3, c3, e, hlt, hc 0 _ rfl, hc 1 _ rfl, hc 2 _ rfl, hc 3 _ rfl, hc 4 _ rfl, hc 5 _ rfl, hc3, hs3⟩

structure Hdn where
  f : Fnd
  note : Int
def Lay.hdn : Lay Hdn :=
  { size := 7, rep := fun w x vs => ∃ (u0 : List Value), vs = u0 ++ ([.int .i64 x.note]) ∧ Lay.fnd.rep w x.f u0,
    len := fun ⟨u0, e, hr0⟩ => by rw [e]; simp only [List.length_append, List.length_cons, List.length_nil, Lay.fnd.len hr0]; rfl,
    mono := fun hb ⟨u0, e, hr0⟩ => ⟨u0, e, Lay.fnd.mono hb hr0⟩ }
def Hdn.Ok (x : Hdn) : Prop := (x.f.Ok) ∧ (I64 x.note)
theorem opensHdn : Opens Tryz.prog 48 Lay.hdn Hdn.Ok :=
  (Opens.struct (L := Lay.fnd.and (Lay.int.and Lay.unit)) Tryz.underlying48 (by kernel_rfl) (OpensF.cons rfl (by kernel_rfl) opensFnd (OpensF.cons rfl (by kernel_rfl) (Opens.int Tryz.underlying3) OpensF.nil))).turn (fun x => ⟨x.1, x.2.1⟩)
    (by rintro w ⟨x0, x1, u⟩ vs ⟨us0, ts0, rfl, h0, us1, ts1, rfl, h1, hu⟩
        obtain rfl : us1 = [.int .i64 x1] := h1
        obtain rfl : ts1 = [] := hu
        exact ⟨us0, by simp, h0⟩)
    (by rintro ⟨x0, x1, u⟩ ⟨o0, o1, hu⟩; exact ⟨o0, o1⟩)

theorem Sl.hdn_at {w : World} {A : Option Addr} {l : List Hdn} (h : Sl Lay.hdn w A l) {i : Nat} (hi : i < l.length) : ∃ (b o : Nat) (A3 : Option Addr) (c3 : Nat), A = some ⟨b, o, none⟩ ∧ b < w.heap.size ∧ w.cell? ⟨b, o + i * 7, none⟩ = some (.int .i64 l[i].f.kind) ∧ w.cell? ⟨b, o + i * 7 + 1, none⟩ = some (.string l[i].f.plc.cls) ∧ w.cell? ⟨b, o + i * 7 + 2, none⟩ = some (.string l[i].f.plc.mth) ∧
    w.cell? ⟨b, o + i * 7 + 3, none⟩ = some (.int .i64 l[i].f.plc.ins) ∧ w.cell? ⟨b, o + i * 7 + 4, none⟩ = some (.string l[i].f.what) ∧ w.cell? ⟨b, o + i * 7 + 5, none⟩ = some (.slice A3 l[i].f.path.length c3) ∧ w.cell? ⟨b, o + i * 7 + 6, none⟩ = some (.int .i64 l[i].note) ∧ l[i].f.path.length ≤ c3 ∧ Sl Lay.plc w A3 l[i].f.path := by
  obtain ⟨b, o, vs, e, hlt, hr, hc⟩ := h i l[i] (List.getElem?_eq_getElem hi)
  obtain ⟨u0, rfl, hr0⟩ := hr
  obtain ⟨A3, c3, rfl, hc3, hs3⟩ := Fnd.cells hr0
  exact ⟨b, o, A3, c3, e, hlt, hc 0 _ rfl, hc 1 _ rfl, hc 2 _ rfl, hc 3 _ rfl, hc 4 _ rfl, hc 5 _ rfl, hc 6 _ rfl, hc3, hs3⟩

structure Rpt where
  opn : List Fnd
  hdn : List Hdn
  uns : List Int
def Lay.rpt : Lay Rpt :=
  { size := 3, rep := fun w x vs => ∃ (A0 : Option Addr) (c0 : Nat) (A1 : Option Addr) (c1 : Nat) (A2 : Option Addr) (c2 : Nat), vs = [.slice A0 x.opn.length c0, .slice A1 x.hdn.length c1, .slice A2 x.uns.length c2] ∧ x.opn.length ≤ c0 ∧ Sl Lay.fnd w A0 x.opn ∧ x.hdn.length ≤ c1 ∧ Sl Lay.hdn w A1 x.hdn ∧ x.uns.length ≤ c2 ∧ Sl Lay.int w A2 x.uns,
    len := fun ⟨A0, c0, A1, c1, A2, c2, e, hc0, hs0, hc1, hs1, hc2, hs2⟩ => by rw [e]; rfl,
    mono := fun hb ⟨A0, c0, A1, c1, A2, c2, e, hc0, hs0, hc1, hs1, hc2, hs2⟩ => ⟨A0, c0, A1, c1, A2, c2, e, hc0, hs0.mono hb, hc1, hs1.mono hb, hc2, hs2.mono hb⟩ }
theorem Sl.rpt_at {w : World} {A : Option Addr} {l : List Rpt} (h : Sl Lay.rpt w A l) {i : Nat} (hi : i < l.length) : ∃ (b o : Nat) (A0 : Option Addr) (c0 : Nat) (A1 : Option Addr) (c1 : Nat) (A2 : Option Addr) (c2 : Nat), A = some ⟨b, o, none⟩ ∧ b < w.heap.size ∧ w.cell? ⟨b, o + i * 3, none⟩ = some (.slice A0 l[i].opn.length c0) ∧ w.cell? ⟨b, o + i * 3 + 1, none⟩ = some (.slice A1 l[i].hdn.length c1) ∧ w.cell? ⟨b, o + i * 3 + 2, none⟩ = some (.slice A2 l[i].uns.length c2) ∧ l[i].opn.length ≤ c0 ∧ Sl Lay.fnd w A0 l[i].opn ∧ l[i].hdn.length ≤ c1 ∧ Sl Lay.hdn w A1 l[i].hdn ∧ l[i].uns.length ≤ c2 ∧ Sl Lay.int w A2 l[i].uns := by
  obtain ⟨b, o, vs, e, hlt, hr, hc⟩ := h i l[i] (List.getElem?_eq_getElem hi)
  obtain ⟨A0, c0, A1, c1, A2, c2, rfl, hc0, hs0, hc1, hs1, hc2, hs2⟩ := hr
  exact ⟨b, o, A0, c0, A1, c1, A2, c2, e, hlt, hc 0 _ rfl, hc 1 _ rfl, hc 2 _ rfl, hc0, hs0, hc1, hs1, hc2, hs2⟩
def Rpt.Ok (x : Rpt) : Prop := (x.opn.length ≤ maxLen ∧ ∀ y ∈ x.opn, y.Ok) ∧ (x.hdn.length ≤ maxLen ∧ ∀ y ∈ x.hdn, y.Ok) ∧ (x.uns.length ≤ maxLen ∧ ∀ y ∈ x.uns, I64 y)
theorem opensRpt : Opens Tryz.prog 26 Lay.rpt Rpt.Ok :=
  (Opens.struct (L := (Lay.fnd).slice.and ((Lay.hdn).slice.and ((Lay.int).slice.and Lay.unit))) Tryz.underlying26 (by kernel_rfl) (OpensF.cons rfl (by kernel_rfl) (Opens.slice Tryz.underlying22 (by kernel_rfl) (by decide) opensFnd) (OpensF.cons rfl (by kernel_rfl) (Opens.slice Tryz.underlying23 (by kernel_rfl) (by decide) opensHdn) (OpensF.cons rfl (by kernel_rfl) (Opens.slice Tryz.underlying24 (by kernel_rfl) (by decide) (Opens.int Tryz.underlying3)) OpensF.nil)))).turn (fun x => ⟨x.1, x.2.1, x.2.2.1⟩)
    (by rintro w ⟨x0, x1, x2, u⟩ vs ⟨us0, ts0, rfl, ⟨A0, c0, rfl, hc0, hs0⟩, us1, ts1, rfl, ⟨A1, c1, rfl, hc1, hs1⟩, us2, ts2, rfl, ⟨A2, c2, rfl, hc2, hs2⟩, hu⟩
        obtain rfl : ts2 = [] := hu
        exact ⟨A0, c0, A1, c1, A2, c2, rfl, hc0, hs0, hc1, hs1, hc2, hs2⟩)
    (by rintro ⟨x0, x1, x2, u⟩ ⟨o0, o1, o2, hu⟩; exact ⟨o0, o1, o2⟩)

end Go.Proofs.YtlcdnkloijehjaaGreatDoor
