/-
  Chapters 12 to 15: instructions and functions, and how they are laid.
-/
import Derived.Test.YthlpndgfphjlkaaOpenW
import Derived.Test.YthlpndgfphjlkaaProg
namespace Go.Proofs.Ythlpndgfphjlkaa
open Go.RowKit
set_option linter.unusedVariables false

structure Fld where
  name : ByteArray
  typ : ByteArray
def cellsFld (x : Fld) : List Value := [.string x.name, .string x.typ]
theorem cellsFld_ok : CellsOk cellsFld 2 := ⟨fun _ => rfl, fun _ u hu => by simp [cellsFld] at hu; rcases hu with rfl | rfl <;> rfl⟩
def Lay.fld : Lay Fld := Lay.plain 2 cellsFld fun _ => rfl
theorem Sl.fld_at {w : World} {A : Option Addr} {l : List Fld} (h : Sl Lay.fld w A l) {i : Nat} (hi : i < l.length) : ∃ (b o : Nat), A = some ⟨b, o, none⟩ ∧ b < w.heap.size ∧ w.cell? ⟨b, o + i * 2, none⟩ = some (.string l[i].name) ∧ w.cell? ⟨b, o + i * 2 + 1, none⟩ = some (.string l[i].typ) := by
  obtain ⟨b, o, vs, e, hlt, hr, hc⟩ := h i l[i] (List.getElem?_eq_getElem hi)
  have hr' : vs = cellsFld l[i] := hr
  subst hr'
  exact ⟨b, o, e, hlt, hc 0 _ rfl, hc 1 _ rfl⟩
def Fld.Ok (x : Fld) : Prop := (x.name.size ≤ maxLen) ∧ (x.typ.size ≤ maxLen)
theorem opensFld : Opens Try.prog 141 Lay.fld Fld.Ok :=
  (Opens.struct (L := Lay.str.and (Lay.str.and Lay.unit)) Try.underlying141 (by kernel_rfl) (OpensF.cons rfl (by kernel_rfl) (Opens.str Try.underlying9) (OpensF.cons rfl (by kernel_rfl) (Opens.str Try.underlying9) OpensF.nil))).turn (fun x => ⟨x.1, x.2.1⟩)
    (by rintro w ⟨x0, x1, u⟩ vs ⟨us0, ts0, rfl, h0, us1, ts1, rfl, h1, hu⟩
        obtain rfl : us0 = [.string x0] := h0
        obtain rfl : us1 = [.string x1] := h1
        obtain rfl : ts1 = [] := hu
        rfl)
    (by rintro ⟨x0, x1, u⟩ ⟨o0, o1, hu⟩; exact ⟨o0, o1⟩)

structure Ins where
  op : Int
  dst : Int
  a : Int
  b : Int
  n : Int
  cls : ByteArray
  name : ByteArray
  args : List Int
  jmp : Int
  hnd : Int
def Lay.ins : Lay Ins :=
  { size := 10, rep := fun w x vs => ∃ (A7 : Option Addr) (c7 : Nat), vs = [.int .i64 x.op, .int .i64 x.dst, .int .i64 x.a, .int .i64 x.b, .int .i64 x.n, .string x.cls, .string x.name, .slice A7 x.args.length c7, .int .i64 x.jmp, .int .i64 x.hnd] ∧ x.args.length ≤ c7 ∧ Sl Lay.int w A7 x.args,
    len := fun ⟨A7, c7, e, hc7, hs7⟩ => by rw [e]; rfl,
    mono := fun hb ⟨A7, c7, e, hc7, hs7⟩ => ⟨A7, c7, e, hc7, hs7.mono hb⟩ }
theorem Sl.ins_at {w : World} {A : Option Addr} {l : List Ins} (h : Sl Lay.ins w A l) {i : Nat} (hi : i < l.length) : ∃ (b o : Nat) (A7 : Option Addr) (c7 : Nat), A = some ⟨b, o, none⟩ ∧ b < w.heap.size ∧ w.cell? ⟨b, o + i * 10, none⟩ = some (.int .i64 l[i].op) ∧ w.cell? ⟨b, o + i * 10 + 1, none⟩ = some (.int .i64 l[i].dst) ∧ w.cell? ⟨b, o + i * 10 + 2, none⟩ = some (.int .i64 l[i].a) ∧ w.cell? ⟨b, o + i * 10 + 3, none⟩ = some (.int .i64 l[i].b) ∧ w.cell? ⟨b, o + i * 10 + 4, none⟩ = some (.int .i64 l[i].n) ∧ w.cell? ⟨b, o + i * 10 + 5, none⟩ = some (.string l[i].cls) ∧ w.cell? ⟨b, o + i * 10 + 6, none⟩ = some (.string l[i].name) ∧ w.cell? ⟨b, o + i * 10 + 7, none⟩ = some (.slice A7 l[i].args.length c7) ∧ w.cell? ⟨b, o + i * 10 + 8, none⟩ = some (.int .i64 l[i].jmp) ∧ w.cell? ⟨b, o + i * 10 + 9, none⟩ = some (.int .i64 l[i].hnd) ∧ l[i].args.length ≤ c7 ∧ Sl Lay.int w A7 l[i].args := by
  obtain ⟨b, o, vs, e, hlt, hr, hc⟩ := h i l[i] (List.getElem?_eq_getElem hi)
  obtain ⟨A7, c7, rfl, hc7, hs7⟩ := hr
  exact ⟨b, o, A7, c7, e, hlt, hc 0 _ rfl, hc 1 _ rfl, hc 2 _ rfl, hc 3 _ rfl, hc 4 _ rfl, hc 5 _ rfl, hc 6 _ rfl, hc 7 _ rfl, hc 8 _ rfl, hc 9 _ rfl, hc7, hs7⟩
def Ins.Ok (x : Ins) : Prop := (I64 x.op) ∧ (I64 x.dst) ∧ (I64 x.a) ∧ (I64 x.b) ∧ (I64 x.n) ∧ (x.cls.size ≤ maxLen) ∧ (x.name.size ≤ maxLen) ∧ (x.args.length ≤ maxLen ∧ ∀ y ∈ x.args, I64 y) ∧ (I64 x.jmp) ∧ (I64 x.hnd)
theorem opensIns : Opens Try.prog 52 Lay.ins Ins.Ok :=
  (Opens.struct (L := Lay.int.and (Lay.int.and (Lay.int.and (Lay.int.and (Lay.int.and (Lay.str.and (Lay.str.and ((Lay.int).slice.and (Lay.int.and (Lay.int.and Lay.unit)))))))))) Try.underlying52 (by kernel_rfl) (OpensF.cons rfl (by kernel_rfl) (Opens.int Try.underlying3) (OpensF.cons rfl (by kernel_rfl) (Opens.int Try.underlying3) (OpensF.cons rfl (by kernel_rfl) (Opens.int Try.underlying3) (OpensF.cons rfl (by kernel_rfl) (Opens.int Try.underlying3) (OpensF.cons rfl (by kernel_rfl) (Opens.int Try.underlying2) (OpensF.cons rfl (by kernel_rfl) (Opens.str Try.underlying9) (OpensF.cons rfl (by kernel_rfl) (Opens.str Try.underlying9) (OpensF.cons rfl (by kernel_rfl) (Opens.slice Try.underlying38 (by kernel_rfl) (by decide) (Opens.int Try.underlying3)) (OpensF.cons rfl (by kernel_rfl) (Opens.int Try.underlying3) (OpensF.cons rfl (by kernel_rfl) (Opens.int Try.underlying3) OpensF.nil))))))))))).turn (fun x => ⟨x.1, x.2.1, x.2.2.1, x.2.2.2.1, x.2.2.2.2.1, x.2.2.2.2.2.1, x.2.2.2.2.2.2.1, x.2.2.2.2.2.2.2.1, x.2.2.2.2.2.2.2.2.1, x.2.2.2.2.2.2.2.2.2.1⟩)
    (by rintro w ⟨x0, x1, x2, x3, x4, x5, x6, x7, x8, x9, u⟩ vs ⟨us0, ts0, rfl, h0, us1, ts1, rfl, h1, us2, ts2, rfl, h2, us3, ts3, rfl, h3, us4, ts4, rfl, h4, us5, ts5, rfl, h5, us6, ts6, rfl, h6, us7, ts7, rfl, ⟨A7, c7, rfl, hc7, hs7⟩, us8, ts8, rfl, h8, us9, ts9, rfl, h9, hu⟩
        obtain rfl : us0 = [.int .i64 x0] := h0
        obtain rfl : us1 = [.int .i64 x1] := h1
        obtain rfl : us2 = [.int .i64 x2] := h2
        obtain rfl : us3 = [.int .i64 x3] := h3
        obtain rfl : us4 = [.int .i64 x4] := h4
        obtain rfl : us5 = [.string x5] := h5
        obtain rfl : us6 = [.string x6] := h6
        obtain rfl : us8 = [.int .i64 x8] := h8
        obtain rfl : us9 = [.int .i64 x9] := h9
        obtain rfl : ts9 = [] := hu
        exact ⟨A7, c7, rfl, hc7, hs7⟩)
    (by rintro ⟨x0, x1, x2, x3, x4, x5, x6, x7, x8, x9, u⟩ ⟨o0, o1, o2, o3, o4, o5, o6, o7, o8, o9, hu⟩; exact ⟨o0, o1, o2, o3, o4, o5, o6, o7, o8, o9⟩)

structure Fun where
  cls : ByteArray
  name : ByteArray
  static : Bool
  nparams : Int
  vars : List Fld
  result : ByteArray
  code : List Ins
def Lay.fun : Lay Fun :=
  { size := 7, rep := fun w x vs => ∃ (A4 : Option Addr) (c4 : Nat) (A6 : Option Addr) (c6 : Nat), vs = [.string x.cls, .string x.name, .bool x.static, .int .i64 x.nparams, .slice A4 x.vars.length c4, .string x.result, .slice A6 x.code.length c6] ∧ x.vars.length ≤ c4 ∧ Sl Lay.fld w A4 x.vars ∧ x.code.length ≤ c6 ∧ Sl Lay.ins w A6 x.code,
    len := fun ⟨A4, c4, A6, c6, e, hc4, hs4, hc6, hs6⟩ => by rw [e]; rfl,
    mono := fun hb ⟨A4, c4, A6, c6, e, hc4, hs4, hc6, hs6⟩ => ⟨A4, c4, A6, c6, e, hc4, hs4.mono hb, hc6, hs6.mono hb⟩ }
theorem Sl.fun_at {w : World} {A : Option Addr} {l : List Fun} (h : Sl Lay.fun w A l) {i : Nat} (hi : i < l.length) : ∃ (b o : Nat) (A4 : Option Addr) (c4 : Nat) (A6 : Option Addr) (c6 : Nat), A = some ⟨b, o, none⟩ ∧ b < w.heap.size ∧ w.cell? ⟨b, o + i * 7, none⟩ = some (.string l[i].cls) ∧ w.cell? ⟨b, o + i * 7 + 1, none⟩ = some (.string l[i].name) ∧ w.cell? ⟨b, o + i * 7 + 2, none⟩ = some (.bool l[i].static) ∧ w.cell? ⟨b, o + i * 7 + 3, none⟩ = some (.int .i64 l[i].nparams) ∧ w.cell? ⟨b, o + i * 7 + 4, none⟩ = some (.slice A4 l[i].vars.length c4) ∧ w.cell? ⟨b, o + i * 7 + 5, none⟩ = some (.string l[i].result) ∧ w.cell? ⟨b, o + i * 7 + 6, none⟩ = some (.slice A6 l[i].code.length c6) ∧ l[i].vars.length ≤ c4 ∧ Sl Lay.fld w A4 l[i].vars ∧ l[i].code.length ≤ c6 ∧ Sl Lay.ins w A6 l[i].code := by
  obtain ⟨b, o, vs, e, hlt, hr, hc⟩ := h i l[i] (List.getElem?_eq_getElem hi)
  obtain ⟨A4, c4, A6, c6, rfl, hc4, hs4, hc6, hs6⟩ := hr
  exact ⟨b, o, A4, c4, A6, c6, e, hlt, hc 0 _ rfl, hc 1 _ rfl, hc 2 _ rfl, hc 3 _ rfl, hc 4 _ rfl, hc 5 _ rfl, hc 6 _ rfl, hc4, hs4, hc6, hs6⟩
def Fun.Ok (x : Fun) : Prop := (x.cls.size ≤ maxLen) ∧ (x.name.size ≤ maxLen) ∧ (True) ∧ (I64 x.nparams) ∧ (x.vars.length ≤ maxLen ∧ ∀ y ∈ x.vars, y.Ok) ∧ (x.result.size ≤ maxLen) ∧ (x.code.length ≤ maxLen ∧ ∀ y ∈ x.code, y.Ok)
theorem opensFun : Opens Try.prog 25 Lay.fun Fun.Ok :=
  (Opens.struct (L := Lay.str.and (Lay.str.and (Lay.bool.and (Lay.int.and ((Lay.fld).slice.and (Lay.str.and ((Lay.ins).slice.and Lay.unit))))))) Try.underlying25 (by kernel_rfl) (OpensF.cons rfl (by kernel_rfl) (Opens.str Try.underlying9) (OpensF.cons rfl (by kernel_rfl) (Opens.str Try.underlying9) (OpensF.cons rfl (by kernel_rfl) (Opens.bool Try.underlying4) (OpensF.cons rfl (by kernel_rfl) (Opens.int Try.underlying3) (OpensF.cons rfl (by kernel_rfl) (Opens.slice Try.underlying22 (by kernel_rfl) (by decide) opensFld) (OpensF.cons rfl (by kernel_rfl) (Opens.str Try.underlying9) (OpensF.cons rfl (by kernel_rfl) (Opens.slice Try.underlying23 (by kernel_rfl) (by decide) opensIns) OpensF.nil)))))))).turn (fun x => ⟨x.1, x.2.1, x.2.2.1, x.2.2.2.1, x.2.2.2.2.1, x.2.2.2.2.2.1, x.2.2.2.2.2.2.1⟩)
    (by rintro w ⟨x0, x1, x2, x3, x4, x5, x6, u⟩ vs ⟨us0, ts0, rfl, h0, us1, ts1, rfl, h1, us2, ts2, rfl, h2, us3, ts3, rfl, h3, us4, ts4, rfl, ⟨A4, c4, rfl, hc4, hs4⟩, us5, ts5, rfl, h5, us6, ts6, rfl, ⟨A6, c6, rfl, hc6, hs6⟩, hu⟩
        obtain rfl : us0 = [.string x0] := h0
        obtain rfl : us1 = [.string x1] := h1
        obtain rfl : us2 = [.bool x2] := h2
        obtain rfl : us3 = [.int .i64 x3] := h3
        obtain rfl : us5 = [.string x5] := h5
        obtain rfl : ts6 = [] := hu
        exact ⟨A4, c4, A6, c6, rfl, hc4, hs4, hc6, hs6⟩)
    (by rintro ⟨x0, x1, x2, x3, x4, x5, x6, u⟩ ⟨o0, o1, o2, o3, o4, o5, o6, hu⟩; exact ⟨o0, o1, o2, o3, o4, o5, o6⟩)

end Go.Proofs.Ythlpndgfphjlkaa
