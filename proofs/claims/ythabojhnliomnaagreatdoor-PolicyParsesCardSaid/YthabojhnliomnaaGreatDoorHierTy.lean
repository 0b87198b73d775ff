/-
  Chapter 10: the data of class hierarchies, and how they are laid.
-/
import Derived.Test.YthabojhnliomnaaGreatDoorOpen
import Derived.Test.YthabojhnliomnaaGreatDoorProg
namespace Go.Proofs.YthabojhnliomnaaGreatDoor
open Go.RowKit
set_option linter.unusedVariables false

structure Fld where
  name : ByteArray
  typ : ByteArray
def cellsFld (x : Fld) : List Value := [.string x.name, .string x.typ]
theorem cellsFld_ok : CellsOk cellsFld 2 := ⟨fun _ => rfl, fun _ u hu => by simp [cellsFld] at hu; rcases hu with rfl | rfl <;> rfl⟩
def Lay.fld : Lay Fld := Lay.plain 2 cellsFld fun _ => rfl
theorem Sl.fld_at {w : World} {A : Option Addr} {l : List Fld} (h : Sl Lay.fld w A l) {i : Nat} (hi : i < l.length) : ∃ (b o : Nat), A = some ⟨b, o, none⟩ ∧ b < w.heap.size ∧ w.cell? ⟨b, o + i * 2, none⟩ = some (.string l[i].name) ∧ w.cell? ⟨b, o + i * 2 + 1, none⟩ = some (.string l[i].typ) := by
  obtain ⟨b, o, vs, e, hlt, hr, hc⟩ := h i l[i] (List.getElem?_eq_getElem hi)
  have hr' : vs = cellsFld l[i] := hr
  subst hr'
  exact ⟨b, o, e, hlt, hc 0 _ rfl, hc 1 _ rfl⟩
def Fld.Ok (x : Fld) : Prop := (x.name.size ≤ maxLen) ∧ (x.typ.size ≤ maxLen)
theorem opensFld : Opens Tryz.prog 225 Lay.fld Fld.Ok :=
  (Opens.struct (L := Lay.str.and (Lay.str.and Lay.unit)) Tryz.underlying225 (by kernel_rfl) (OpensF.cons rfl (by kernel_rfl) (Opens.str Tryz.underlying9) (OpensF.cons rfl (by kernel_rfl) (Opens.str Tryz.underlying9) OpensF.nil))).turn (fun x => ⟨x.1, x.2.1⟩)
    (by rintro w ⟨x0, x1, u⟩ vs ⟨us0, ts0, rfl, h0, us1, ts1, rfl, h1, hu⟩
        obtain rfl : us0 = [.string x0] := h0
        obtain rfl : us1 = [.string x1] := h1
        obtain rfl : ts1 = [] := hu
        rfl)
    (by rintro ⟨x0, x1, u⟩ ⟨o0, o1, hu⟩; exact ⟨o0, o1⟩)

structure Sg where
  name : ByteArray
  static : Bool
  params : List ByteArray
  result : ByteArray
def Lay.sg : Lay Sg :=
  { size := 4, rep := fun w x vs => ∃ (A2 : Option Addr) (c2 : Nat), vs = [.string x.name, .bool x.static, .slice A2 x.params.length c2, .string x.result] ∧ x.params.length ≤ c2 ∧ Sl Lay.str w A2 x.params,
    len := fun ⟨A2, c2, e, hc2, hs2⟩ => by rw [e]; rfl,
    mono := fun hb ⟨A2, c2, e, hc2, hs2⟩ => ⟨A2, c2, e, hc2, hs2.mono hb⟩ }
theorem Sl.sg_at {w : World} {A : Option Addr} {l : List Sg} (h : Sl Lay.sg w A l) {i : Nat} (hi : i < l.length) : ∃ (b o : Nat) (A2 : Option Addr) (c2 : Nat), A = some ⟨b, o, none⟩ ∧ b < w.heap.size ∧ w.cell? ⟨b, o + i * 4, none⟩ = some (.string l[i].name) ∧ w.cell? ⟨b, o + i * 4 + 1, none⟩ = some (.bool l[i].static) ∧ w.cell? ⟨b, o + i * 4 + 2, none⟩ = some (.slice A2 l[i].params.length c2) ∧ w.cell? ⟨b, o + i * 4 + 3, none⟩ = some (.string l[i].result) ∧ l[i].params.length ≤ c2 ∧ Sl Lay.str w A2 l[i].params := by
  obtain ⟨b, o, vs, e, hlt, hr, hc⟩ := h i l[i] (List.getElem?_eq_getElem hi)
  obtain ⟨A2, c2, rfl, hc2, hs2⟩ := hr
  exact ⟨b, o, A2, c2, e, hlt, hc 0 _ rfl, hc 1 _ rfl, hc 2 _ rfl, hc 3 _ rfl, hc2, hs2⟩
def Sg.Ok (x : Sg) : Prop := (x.name.size ≤ maxLen) ∧ (True) ∧ (x.params.length ≤ maxLen ∧ ∀ y ∈ x.params, y.size ≤ maxLen) ∧ (x.result.size ≤ maxLen)
theorem opensSg : Opens Tryz.prog 98 Lay.sg Sg.Ok :=
  (Opens.struct (L := Lay.str.and (Lay.bool.and ((Lay.str).slice.and (Lay.str.and Lay.unit)))) Tryz.underlying98 (by kernel_rfl) (OpensF.cons rfl (by kernel_rfl) (Opens.str Tryz.underlying9) (OpensF.cons rfl (by kernel_rfl) (Opens.bool Tryz.underlying4) (OpensF.cons rfl (by kernel_rfl) (Opens.slice Tryz.underlying38 (by kernel_rfl) (by decide) (Opens.str Tryz.underlying9)) (OpensF.cons rfl (by kernel_rfl) (Opens.str Tryz.underlying9) OpensF.nil))))).turn (fun x => ⟨x.1, x.2.1, x.2.2.1, x.2.2.2.1⟩)
    (by rintro w ⟨x0, x1, x2, x3, u⟩ vs ⟨us0, ts0, rfl, h0, us1, ts1, rfl, h1, us2, ts2, rfl, ⟨A2, c2, rfl, hc2, hs2⟩, us3, ts3, rfl, h3, hu⟩
        obtain rfl : us0 = [.string x0] := h0
        obtain rfl : us1 = [.bool x1] := h1
        obtain rfl : us3 = [.string x3] := h3
        obtain rfl : ts3 = [] := hu
        exact ⟨A2, c2, rfl, hc2, hs2⟩)
    (by rintro ⟨x0, x1, x2, x3, u⟩ ⟨o0, o1, o2, o3, hu⟩; exact ⟨o0, o1, o2, o3⟩)

structure Cls where
  name : ByteArray
  super : ByteArray
  fields : List Fld
  methods : List Sg
def Lay.cls : Lay Cls :=
  { size := 4, rep := fun w x vs => ∃ (A2 : Option Addr) (c2 : Nat) (A3 : Option Addr) (c3 : Nat), vs = [.string x.name, .string x.super, .slice A2 x.fields.length c2, .slice A3 x.methods.length c3] ∧ x.fields.length ≤ c2 ∧ Sl Lay.fld w A2 x.fields ∧ x.methods.length ≤ c3 ∧ Sl Lay.sg w A3 x.methods,
    len := fun ⟨A2, c2, A3, c3, e, hc2, hs2, hc3, hs3⟩ => by rw [e]; rfl,
    mono := fun hb ⟨A2, c2, A3, c3, e, hc2, hs2, hc3, hs3⟩ => ⟨A2, c2, A3, c3, e, hc2, hs2.mono hb, hc3, hs3.mono hb⟩ }
theorem Sl.cls_at {w : World} {A : Option Addr} {l : List Cls} (h : Sl Lay.cls w A l) {i : Nat} (hi : i < l.length) : ∃ (b o : Nat) (A2 : Option Addr) (c2 : Nat) (A3 : Option Addr) (c3 : Nat), A = some ⟨b, o, none⟩ ∧ b < w.heap.size ∧ w.cell? ⟨b, o + i * 4, none⟩ = some (.string l[i].name) ∧ w.cell? ⟨b, o + i * 4 + 1, none⟩ = some (.string l[i].super) ∧ w.cell? ⟨b, o + i * 4 + 2, none⟩ = some (.slice A2 l[i].fields.length c2) ∧ w.cell? ⟨b, o + i * 4 + 3, none⟩ = some (.slice A3 l[i].methods.length c3) ∧ l[i].fields.length ≤ c2 ∧ Sl Lay.fld w A2 l[i].fields ∧ l[i].methods.length ≤ c3 ∧ Sl Lay.sg w A3 l[i].methods := by
  obtain ⟨b, o, vs, e, hlt, hr, hc⟩ := h i l[i] (List.getElem?_eq_getElem hi)
  obtain ⟨A2, c2, A3, c3, rfl, hc2, hs2, hc3, hs3⟩ := hr
  exact ⟨b, o, A2, c2, A3, c3, e, hlt, hc 0 _ rfl, hc 1 _ rfl, hc 2 _ rfl, hc 3 _ rfl, hc2, hs2, hc3, hs3⟩
def Cls.Ok (x : Cls) : Prop := (x.name.size ≤ maxLen) ∧ (x.super.size ≤ maxLen) ∧ (x.fields.length ≤ maxLen ∧ ∀ y ∈ x.fields, y.Ok) ∧ (x.methods.length ≤ maxLen ∧ ∀ y ∈ x.methods, y.Ok)
theorem opensCls : Opens Tryz.prog 113 Lay.cls Cls.Ok :=
  (Opens.struct (L := Lay.str.and (Lay.str.and ((Lay.fld).slice.and ((Lay.sg).slice.and Lay.unit)))) Tryz.underlying113 (by kernel_rfl) (OpensF.cons rfl (by kernel_rfl) (Opens.str Tryz.underlying9) (OpensF.cons rfl (by kernel_rfl) (Opens.str Tryz.underlying9) (OpensF.cons rfl (by kernel_rfl) (Opens.slice Tryz.underlying110 (by kernel_rfl) (by decide) opensFld) (OpensF.cons rfl (by kernel_rfl) (Opens.slice Tryz.underlying111 (by kernel_rfl) (by decide) opensSg) OpensF.nil))))).turn (fun x => ⟨x.1, x.2.1, x.2.2.1, x.2.2.2.1⟩)
    (by rintro w ⟨x0, x1, x2, x3, u⟩ vs ⟨us0, ts0, rfl, h0, us1, ts1, rfl, h1, us2, ts2, rfl, ⟨A2, c2, rfl, hc2, hs2⟩, us3, ts3, rfl, ⟨A3, c3, rfl, hc3, hs3⟩, hu⟩
        obtain rfl : us0 = [.string x0] := h0
        obtain rfl : us1 = [.string x1] := h1
        obtain rfl : ts3 = [] := hu
        exact ⟨A2, c2, A3, c3, rfl, hc2, hs2, hc3, hs3⟩)
    (by rintro ⟨x0, x1, x2, x3, u⟩ ⟨o0, o1, o2, o3, hu⟩; exact ⟨o0, o1, o2, o3⟩)

structure Hi where
  classes : List Cls
def Lay.hi : Lay Hi :=
  { size := 1, rep := fun w x vs => ∃ (A0 : Option Addr) (c0 : Nat), vs = [.slice A0 x.classes.length c0] ∧ x.classes.length ≤ c0 ∧ Sl Lay.cls w A0 x.classes,
    len := fun ⟨A0, c0, e, hc0, hs0⟩ => by rw [e]; rfl,
    mono := fun hb ⟨A0, c0, e, hc0, hs0⟩ => ⟨A0, c0, e, hc0, hs0.mono hb⟩ }
theorem Sl.hi_at {w : World} {A : Option Addr} {l : List Hi} (h : Sl Lay.hi w A l) {i : Nat} (hi : i < l.length) : ∃ (b o : Nat) (A0 : Option Addr) (c0 : Nat), A = some ⟨b, o, none⟩ ∧ b < w.heap.size ∧ w.cell? ⟨b, o + i, none⟩ = some (.slice A0 l[i].classes.length c0) ∧ l[i].classes.length ≤ c0 ∧ Sl Lay.cls w A0 l[i].classes := by
  obtain ⟨b, o, vs, e, hlt, hr, hc⟩ := h i l[i] (List.getElem?_eq_getElem hi)
  obtain ⟨A0, c0, rfl, hc0, hs0⟩ := hr
  exact ⟨b, o, A0, c0, e, hlt, (by have := hc 0 _ rfl; rwa [show Lay.hi.size = 1 from rfl, Nat.mul_one, Nat.add_zero] at this), hc0, hs0⟩
def Hi.Ok (x : Hi) : Prop := (x.classes.length ≤ maxLen ∧ ∀ y ∈ x.classes, y.Ok)
theorem opensHi : Opens Tryz.prog 42 Lay.hi Hi.Ok :=
  (Opens.struct (L := (Lay.cls).slice.and Lay.unit) Tryz.underlying42 (by kernel_rfl) (OpensF.cons rfl (by kernel_rfl) (Opens.slice Tryz.underlying40 (by kernel_rfl) (by decide) opensCls) OpensF.nil)).turn (fun x => ⟨x.1⟩)
    (by rintro w ⟨x0, u⟩ vs ⟨us0, ts0, rfl, ⟨A0, c0, rfl, hc0, hs0⟩, hu⟩
        obtain rfl : ts0 = [] := hu
        exact ⟨A0, c0, rfl, hc0, hs0⟩)
    (by rintro ⟨x0, u⟩ ⟨o0, hu⟩; exact o0)

end Go.Proofs.YthabojhnliomnaaGreatDoor
