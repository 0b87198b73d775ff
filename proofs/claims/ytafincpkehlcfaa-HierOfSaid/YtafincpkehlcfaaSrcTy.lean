/-
  Chapter 10: the data of sources, and how they are laid.
-/
import Derived.Test.YtafincpkehlcfaaSrcAny
import Derived.Test.YtafincpkehlcfaaHierTy
namespace Go.Proofs.Ytafincpkehlcfaa
open Go.RowKit
set_option linter.unusedVariables false

structure Mth where
  name : ByteArray
  static : Bool
  params : List Fld
  result : ByteArray
  body : AnySl
def Lay.mth : Lay Mth :=
  { size := 5, rep := fun w x vs => ∃ (A2 : Option Addr) (c2 : Nat), vs = [.string x.name, .bool x.static, .slice A2 x.params.length c2, .string x.result, .slice x.body.A x.body.n x.body.c] ∧ x.params.length ≤ c2 ∧ Sl Lay.fld w A2 x.params,
    len := fun ⟨A2, c2, e, hc2, hs2⟩ => by rw [e]; rfl,
    mono := fun hb ⟨A2, c2, e, hc2, hs2⟩ => ⟨A2, c2, e, hc2, hs2.mono hb⟩ }
theorem Sl.mth_at {w : World} {A : Option Addr} {l : List Mth} (h : Sl Lay.mth w A l) {i : Nat} (hi : i < l.length) : ∃ (b o : Nat) (A2 : Option Addr) (c2 : Nat), A = some ⟨b, o, none⟩ ∧ b < w.heap.size ∧ w.cell? ⟨b, o + i * 5, none⟩ = some (.string l[i].name) ∧ w.cell? ⟨b, o + i * 5 + 1, none⟩ = some (.bool l[i].static) ∧ w.cell? ⟨b, o + i * 5 + 2, none⟩ = some (.slice A2 l[i].params.length c2) ∧ w.cell? ⟨b, o + i * 5 + 3, none⟩ = some (.string l[i].result) ∧ w.cell? ⟨b, o + i * 5 + 4, none⟩ = some (.slice l[i].body.A l[i].body.n l[i].body.c) ∧ l[i].params.length ≤ c2 ∧ Sl Lay.fld w A2 l[i].params := by
  obtain ⟨b, o, vs, e, hlt, hr, hc⟩ := h i l[i] (List.getElem?_eq_getElem hi)
  obtain ⟨A2, c2, rfl, hc2, hs2⟩ := hr
  exact ⟨b, o, A2, c2, e, hlt, hc 0 _ rfl, hc 1 _ rfl, hc 2 _ rfl, hc 3 _ rfl, hc 4 _ rfl, hc2, hs2⟩
def Mth.Ok (x : Mth) : Prop := (x.name.size ≤ maxLen) ∧ (True) ∧ (x.params.length ≤ maxLen ∧ ∀ y ∈ x.params, y.Ok) ∧ (x.result.size ≤ maxLen) ∧ (True)
theorem opensMth : Opens Try.prog 48 Lay.mth Mth.Ok :=
  (Opens.struct (L := Lay.str.and (Lay.bool.and ((Lay.fld).slice.and (Lay.str.and (Lay.any.and Lay.unit))))) Try.underlying48 (by kernel_rfl) (OpensF.cons rfl (by kernel_rfl) (Opens.str Try.underlying9) (OpensF.cons rfl (by kernel_rfl) (Opens.bool Try.underlying4) (OpensF.cons rfl (by kernel_rfl) (Opens.slice Try.underlying32 (by kernel_rfl) (by decide) opensFld) (OpensF.cons rfl (by kernel_rfl) (Opens.str Try.underlying9) (OpensF.cons rfl (by kernel_rfl) (Opens.any Try.underlying46) OpensF.nil)))))).turn (fun x => ⟨x.1, x.2.1, x.2.2.1, x.2.2.2.1, x.2.2.2.2.1⟩)
    (by rintro w ⟨x0, x1, x2, x3, x4, u⟩ vs ⟨us0, ts0, rfl, h0, us1, ts1, rfl, h1, us2, ts2, rfl, ⟨A2, c2, rfl, hc2, hs2⟩, us3, ts3, rfl, h3, us4, ts4, rfl, h4, hu⟩
        obtain rfl : us0 = [.string x0] := h0
        obtain rfl : us1 = [.bool x1] := h1
        obtain rfl : us3 = [.string x3] := h3
        obtain rfl : us4 = [.slice x4.A x4.n x4.c] := h4
        obtain rfl : ts4 = [] := hu
        exact ⟨A2, c2, rfl, hc2, hs2⟩)
    (by rintro ⟨x0, x1, x2, x3, x4, u⟩ ⟨o0, o1, o2, o3, o4, hu⟩; exact ⟨o0, o1, o2, o3, o4⟩)

structure SCls where
  name : ByteArray
  super : ByteArray
  fields : List Fld
  methods : List Mth
def Lay.sCls : Lay SCls :=
  { size := 4, rep := fun w x vs => ∃ (A2 : Option Addr) (c2 : Nat) (A3 : Option Addr) (c3 : Nat), vs = [.string x.name, .string x.super, .slice A2 x.fields.length c2, .slice A3 x.methods.length c3] ∧ x.fields.length ≤ c2 ∧ Sl Lay.fld w A2 x.fields ∧ x.methods.length ≤ c3 ∧ Sl Lay.mth w A3 x.methods,
    len := fun ⟨A2, c2, A3, c3, e, hc2, hs2, hc3, hs3⟩ => by rw [e]; rfl,
    mono := fun hb ⟨A2, c2, A3, c3, e, hc2, hs2, hc3, hs3⟩ => ⟨A2, c2, A3, c3, e, hc2, hs2.mono hb, hc3, hs3.mono hb⟩ }
theorem Sl.sCls_at {w : World} {A : Option Addr} {l : List SCls} (h : Sl Lay.sCls w A l) {i : Nat} (hi : i < l.length) : ∃ (b o : Nat) (A2 : Option Addr) (c2 : Nat) (A3 : Option Addr) (c3 : Nat), A = some ⟨b, o, none⟩ ∧ b < w.heap.size ∧ w.cell? ⟨b, o + i * 4, none⟩ = some (.string l[i].name) ∧ w.cell? ⟨b, o + i * 4 + 1, none⟩ = some (.string l[i].super) ∧ w.cell? ⟨b, o + i * 4 + 2, none⟩ = some (.slice A2 l[i].fields.length c2) ∧ w.cell? ⟨b, o + i * 4 + 3, none⟩ = some (.slice A3 l[i].methods.length c3) ∧ l[i].fields.length ≤ c2 ∧ Sl Lay.fld w A2 l[i].fields ∧ l[i].methods.length ≤ c3 ∧ Sl Lay.mth w A3 l[i].methods := by
  obtain ⟨b, o, vs, e, hlt, hr, hc⟩ := h i l[i] (List.getElem?_eq_getElem hi)
  obtain ⟨A2, c2, A3, c3, rfl, hc2, hs2, hc3, hs3⟩ := hr
  exact ⟨b, o, A2, c2, A3, c3, e, hlt, hc 0 _ rfl, hc 1 _ rfl, hc 2 _ rfl, hc 3 _ rfl, hc2, hs2, hc3, hs3⟩
def SCls.Ok (x : SCls) : Prop := (x.name.size ≤ maxLen) ∧ (x.super.size ≤ maxLen) ∧ (x.fields.length ≤ maxLen ∧ ∀ y ∈ x.fields, y.Ok) ∧ (x.methods.length ≤ maxLen ∧ ∀ y ∈ x.methods, y.Ok)
theorem opensSCls : Opens Try.prog 44 Lay.sCls SCls.Ok :=
  (Opens.struct (L := Lay.str.and (Lay.str.and ((Lay.fld).slice.and ((Lay.mth).slice.and Lay.unit)))) Try.underlying44 (by kernel_rfl) (OpensF.cons rfl (by kernel_rfl) (Opens.str Try.underlying9) (OpensF.cons rfl (by kernel_rfl) (Opens.str Try.underlying9) (OpensF.cons rfl (by kernel_rfl) (Opens.slice Try.underlying32 (by kernel_rfl) (by decide) opensFld) (OpensF.cons rfl (by kernel_rfl) (Opens.slice Try.underlying42 (by kernel_rfl) (by decide) opensMth) OpensF.nil))))).turn (fun x => ⟨x.1, x.2.1, x.2.2.1, x.2.2.2.1⟩)
    (by rintro w ⟨x0, x1, x2, x3, u⟩ vs ⟨us0, ts0, rfl, h0, us1, ts1, rfl, h1, us2, ts2, rfl, ⟨A2, c2, rfl, hc2, hs2⟩, us3, ts3, rfl, ⟨A3, c3, rfl, hc3, hs3⟩, hu⟩
        obtain rfl : us0 = [.string x0] := h0
        obtain rfl : us1 = [.string x1] := h1
        obtain rfl : ts3 = [] := hu
        exact ⟨A2, c2, A3, c3, rfl, hc2, hs2, hc3, hs3⟩)
    (by rintro ⟨x0, x1, x2, x3, u⟩ ⟨o0, o1, o2, o3, hu⟩; exact ⟨o0, o1, o2, o3⟩)

structure Src where
  classes : List SCls
def Lay.src : Lay Src :=
  { size := 1, rep := fun w x vs => ∃ (A0 : Option Addr) (c0 : Nat), vs = [.slice A0 x.classes.length c0] ∧ x.classes.length ≤ c0 ∧ Sl Lay.sCls w A0 x.classes,
    len := fun ⟨A0, c0, e, hc0, hs0⟩ => by rw [e]; rfl,
    mono := fun hb ⟨A0, c0, e, hc0, hs0⟩ => ⟨A0, c0, e, hc0, hs0.mono hb⟩ }
theorem Sl.src_at {w : World} {A : Option Addr} {l : List Src} (h : Sl Lay.src w A l) {i : Nat} (hi : i < l.length) : ∃ (b o : Nat) (A0 : Option Addr) (c0 : Nat), A = some ⟨b, o, none⟩ ∧ b < w.heap.size ∧ w.cell? ⟨b, o + i, none⟩ = some (.slice A0 l[i].classes.length c0) ∧ l[i].classes.length ≤ c0 ∧ Sl Lay.sCls w A0 l[i].classes := by
  obtain ⟨b, o, vs, e, hlt, hr, hc⟩ := h i l[i] (List.getElem?_eq_getElem hi)
  obtain ⟨A0, c0, rfl, hc0, hs0⟩ := hr
  exact ⟨b, o, A0, c0, e, hlt, (by have := hc 0 _ rfl; rwa [show Lay.src.size = 1 from rfl, Nat.mul_one, Nat.add_zero] at this), hc0, hs0⟩
def Src.Ok (x : Src) : Prop := (x.classes.length ≤ maxLen ∧ ∀ y ∈ x.classes, y.Ok)
theorem opensSrc : Opens Try.prog 24 Lay.src Src.Ok :=
  (Opens.struct (L := (Lay.sCls).slice.and Lay.unit) Try.underlying24 (by kernel_rfl) (OpensF.cons rfl (by kernel_rfl) (Opens.slice Try.underlying22 (by kernel_rfl) (by decide) opensSCls) OpensF.nil)).turn (fun x => ⟨x.1⟩)
    (by rintro w ⟨x0, u⟩ vs ⟨us0, ts0, rfl, ⟨A0, c0, rfl, hc0, hs0⟩, hu⟩
        obtain rfl : ts0 = [] := hu
        exact ⟨A0, c0, rfl, hc0, hs0⟩)
    (by rintro ⟨x0, u⟩ ⟨o0, hu⟩; exact o0)

end Go.Proofs.Ytafincpkehlcfaa
