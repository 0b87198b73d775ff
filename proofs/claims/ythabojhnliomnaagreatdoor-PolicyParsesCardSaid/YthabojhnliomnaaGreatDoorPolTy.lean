/-
  Chapter 42: rules, protocols, policies as data.
-/
import Derived.Test.YthabojhnliomnaaGreatDoorProg
import Derived.Test.YthabojhnliomnaaGreatDoorOpen
namespace Go.Proofs.YthabojhnliomnaaGreatDoor
open Go.RowKit
set_option linter.unusedVariables false

structure Acp where
  root : Int
  n : Int
  fields : List ByteArray
  star : Bool
def Lay.acp : Lay Acp :=
  { size := 4, rep := fun w x vs => ∃ (A2 : Option Addr) (c2 : Nat), vs = [.int .i64 x.root, .int .i64 x.n, .slice A2 x.fields.length c2, .bool x.star] ∧ x.fields.length ≤ c2 ∧ Sl Lay.str w A2 x.fields,
    len := fun ⟨A2, c2, e, hc2, hs2⟩ => by rw [e]; rfl,
    mono := fun hb ⟨A2, c2, e, hc2, hs2⟩ => ⟨A2, c2, e, hc2, hs2.mono hb⟩ }
theorem Sl.acp_at {w : World} {A : Option Addr} {l : List Acp} (h : Sl Lay.acp w A l) {i : Nat} (hi : i < l.length) : ∃ (b o : Nat) (A2 : Option Addr) (c2 : Nat), A = some ⟨b, o, none⟩ ∧ b < w.heap.size ∧ w.cell? ⟨b, o + i * 4, none⟩ = some (.int .i64 l[i].root) ∧ w.cell? ⟨b, o + i * 4 + 1, none⟩ = some (.int .i64 l[i].n) ∧ w.cell? ⟨b, o + i * 4 + 2, none⟩ = some (.slice A2 l[i].fields.length c2) ∧ w.cell? ⟨b, o + i * 4 + 3, none⟩ = some (.bool l[i].star) ∧ l[i].fields.length ≤ c2 ∧ Sl Lay.str w A2 l[i].fields := by
  obtain ⟨b, o, vs, e, hlt, hr, hc⟩ := h i l[i] (List.getElem?_eq_getElem hi)
  obtain ⟨A2, c2, rfl, hc2, hs2⟩ := hr
  exact ⟨b, o, A2, c2, e, hlt, hc 0 _ rfl, hc 1 _ rfl, hc 2 _ rfl, hc 3 _ rfl, hc2, hs2⟩
def Acp.Ok (x : Acp) : Prop := (I64 x.root) ∧ (I64 x.n) ∧ (x.fields.length ≤ maxLen ∧ ∀ y ∈ x.fields, y.size ≤ maxLen) ∧ (True)
theorem opensAcp : Opens Tryz.prog 49 Lay.acp Acp.Ok :=
  (Opens.struct (L := Lay.int.and (Lay.int.and ((Lay.str).slice.and (Lay.bool.and Lay.unit)))) Tryz.underlying49 (by kernel_rfl) (OpensF.cons rfl (by kernel_rfl) (Opens.int Tryz.underlying3) (OpensF.cons rfl (by kernel_rfl) (Opens.int Tryz.underlying3) (OpensF.cons rfl (by kernel_rfl) (Opens.slice Tryz.underlying38 (by kernel_rfl) (by decide) (Opens.str Tryz.underlying9)) (OpensF.cons rfl (by kernel_rfl) (Opens.bool Tryz.underlying4) OpensF.nil))))).turn (fun x => ⟨x.1, x.2.1, x.2.2.1, x.2.2.2.1⟩)
    (by rintro w ⟨x0, x1, x2, x3, u⟩ vs ⟨us0, ts0, rfl, h0, us1, ts1, rfl, h1, us2, ts2, rfl, ⟨A2, c2, rfl, hc2, hs2⟩, us3, ts3, rfl, h3, hu⟩
        obtain rfl : us0 = [.int .i64 x0] := h0
        obtain rfl : us1 = [.int .i64 x1] := h1
        obtain rfl : us3 = [.bool x3] := h3
        obtain rfl : ts3 = [] := hu
        exact ⟨A2, c2, rfl, hc2, hs2⟩)
    (by rintro ⟨x0, x1, x2, x3, u⟩ ⟨o0, o1, o2, o3, hu⟩; exact ⟨o0, o1, o2, o3⟩)

structure Rul where
  kind : Int
  cls : ByteArray
  mth : ByteArray
  pth : Acp
  tag : ByteArray
def Lay.rul : Lay Rul :=
  { size := 8, rep := fun w x vs => ∃ (u3 : List Value), vs = [.int .i64 x.kind, .string x.cls, .string x.mth] ++ (u3 ++ ([.string x.tag])) ∧ Lay.acp.rep w x.pth u3,
    len := fun ⟨u3, e, hr3⟩ => by rw [e]; simp only [List.length_append, List.length_cons, List.length_nil, Lay.acp.len hr3]; rfl,
    mono := fun hb ⟨u3, e, hr3⟩ => ⟨u3, e, Lay.acp.mono hb hr3⟩ }
def Rul.Ok (x : Rul) : Prop := (I64 x.kind) ∧ (x.cls.size ≤ maxLen) ∧ (x.mth.size ≤ maxLen) ∧ (x.pth.Ok) ∧ (x.tag.size ≤ maxLen)
theorem opensRul : Opens Tryz.prog 51 Lay.rul Rul.Ok :=
  (Opens.struct (L := Lay.int.and (Lay.str.and (Lay.str.and (Lay.acp.and (Lay.str.and Lay.unit))))) Tryz.underlying51 (by kernel_rfl) (OpensF.cons rfl (by kernel_rfl) (Opens.int Tryz.underlying3) (OpensF.cons rfl (by kernel_rfl) (Opens.str Tryz.underlying9) (OpensF.cons rfl (by kernel_rfl) (Opens.str Tryz.underlying9) (OpensF.cons rfl (by kernel_rfl) opensAcp (OpensF.cons rfl (by kernel_rfl) (Opens.str Tryz.underlying9) OpensF.nil)))))).turn (fun x => ⟨x.1, x.2.1, x.2.2.1, x.2.2.2.1, x.2.2.2.2.1⟩)
    (by rintro w ⟨x0, x1, x2, x3, x4, u⟩ vs ⟨us0, ts0, rfl, h0, us1, ts1, rfl, h1, us2, ts2, rfl, h2, us3, ts3, rfl, h3, us4, ts4, rfl, h4, hu⟩
        obtain rfl : us0 = [.int .i64 x0] := h0
        obtain rfl : us1 = [.string x1] := h1
        obtain rfl : us2 = [.string x2] := h2
        obtain rfl : us4 = [.string x4] := h4
        obtain rfl : ts4 = [] := hu
        exact ⟨us3, by simp, h3⟩)
    (by rintro ⟨x0, x1, x2, x3, x4, u⟩ ⟨o0, o1, o2, o3, o4, hu⟩; exact ⟨o0, o1, o2, o3, o4⟩)

theorem Sl.rul_at {w : World} {A : Option Addr} {l : List Rul} (h : Sl Lay.rul w A l) {i : Nat} (hi : i < l.length) : ∃ (b o : Nat) (A2 : Option Addr) (c2 : Nat), A = some ⟨b, o, none⟩ ∧ b < w.heap.size ∧ w.cell? ⟨b, o + i * 8, none⟩ = some (.int .i64 l[i].kind) ∧ w.cell? ⟨b, o + i * 8 + 1, none⟩ = some (.string l[i].cls) ∧ w.cell? ⟨b, o + i * 8 + 2, none⟩ = some (.string l[i].mth) ∧
    w.cell? ⟨b, o + i * 8 + 3, none⟩ = some (.int .i64 l[i].pth.root) ∧ w.cell? ⟨b, o + i * 8 + 4, none⟩ = some (.int .i64 l[i].pth.n) ∧ w.cell? ⟨b, o + i * 8 + 5, none⟩ = some (.slice A2 l[i].pth.fields.length c2) ∧ w.cell? ⟨b, o + i * 8 + 6, none⟩ = some (.bool l[i].pth.star) ∧ w.cell? ⟨b, o + i * 8 + 7, none⟩ = some (.string l[i].tag) ∧ l[i].pth.fields.length ≤ c2 ∧ Sl Lay.str w A2 l[i].pth.fields := by
  obtain ⟨b, o, vs, e, hlt, hr, hc⟩ := h i l[i] (List.getElem?_eq_getElem hi)
  obtain ⟨u3, rfl, A2, c2, rfl, hc2, hs2⟩ := hr
  exact ⟨b, o, A2, c2, e, hlt, hc 0 _ rfl, hc 1 _ rfl, hc 2 _ rfl, hc 3 _ rfl, hc 4 _ rfl, hc 5 _ rfl, hc 6 _ rfl, hc 7 _ rfl, hc2, hs2⟩

structure Mov where
  src : Int
  mth : ByteArray
  dst : Int
def cellsMov (x : Mov) : List Value := [.int .i64 x.src, .string x.mth, .int .i64 x.dst]
theorem cellsMov_ok : CellsOk cellsMov 3 := ⟨fun _ => rfl, fun _ u hu => by simp [cellsMov] at hu; rcases hu with rfl | rfl | rfl <;> rfl⟩
def Lay.mov : Lay Mov := Lay.plain 3 cellsMov fun _ => rfl
theorem Sl.mov_at {w : World} {A : Option Addr} {l : List Mov} (h : Sl Lay.mov w A l) {i : Nat} (hi : i < l.length) : ∃ (b o : Nat), A = some ⟨b, o, none⟩ ∧ b < w.heap.size ∧ w.cell? ⟨b, o + i * 3, none⟩ = some (.int .i64 l[i].src) ∧ w.cell? ⟨b, o + i * 3 + 1, none⟩ = some (.string l[i].mth) ∧ w.cell? ⟨b, o + i * 3 + 2, none⟩ = some (.int .i64 l[i].dst) := by
  obtain ⟨b, o, vs, e, hlt, hr, hc⟩ := h i l[i] (List.getElem?_eq_getElem hi)
  have hr' : vs = cellsMov l[i] := hr
  subst hr'
  exact ⟨b, o, e, hlt, hc 0 _ rfl, hc 1 _ rfl, hc 2 _ rfl⟩
def Mov.Ok (x : Mov) : Prop := (I64 x.src) ∧ (x.mth.size ≤ maxLen) ∧ (I64 x.dst)
theorem opensMov : Opens Tryz.prog 103 Lay.mov Mov.Ok :=
  (Opens.struct (L := Lay.int.and (Lay.str.and (Lay.int.and Lay.unit))) Tryz.underlying103 (by kernel_rfl) (OpensF.cons rfl (by kernel_rfl) (Opens.int Tryz.underlying3) (OpensF.cons rfl (by kernel_rfl) (Opens.str Tryz.underlying9) (OpensF.cons rfl (by kernel_rfl) (Opens.int Tryz.underlying3) OpensF.nil)))).turn (fun x => ⟨x.1, x.2.1, x.2.2.1⟩)
    (by rintro w ⟨x0, x1, x2, u⟩ vs ⟨us0, ts0, rfl, h0, us1, ts1, rfl, h1, us2, ts2, rfl, h2, hu⟩
        obtain rfl : us0 = [.int .i64 x0] := h0
        obtain rfl : us1 = [.string x1] := h1
        obtain rfl : us2 = [.int .i64 x2] := h2
        obtain rfl : ts2 = [] := hu
        rfl)
    (by rintro ⟨x0, x1, x2, u⟩ ⟨o0, o1, o2, hu⟩; exact ⟨o0, o1, o2⟩)

structure Ptc where
  cls : ByteArray
  states : List ByteArray
  start : Int
  err : Int
  moves : List Mov
def Lay.ptc : Lay Ptc :=
  { size := 5, rep := fun w x vs => ∃ (A1 : Option Addr) (c1 : Nat) (A4 : Option Addr) (c4 : Nat), vs = [.string x.cls, .slice A1 x.states.length c1, .int .i64 x.start, .int .i64 x.err, .slice A4 x.moves.length c4] ∧ x.states.length ≤ c1 ∧ Sl Lay.str w A1 x.states ∧ x.moves.length ≤ c4 ∧ Sl Lay.mov w A4 x.moves,
    len := fun ⟨A1, c1, A4, c4, e, hc1, hs1, hc4, hs4⟩ => by rw [e]; rfl,
    mono := fun hb ⟨A1, c1, A4, c4, e, hc1, hs1, hc4, hs4⟩ => ⟨A1, c1, A4, c4, e, hc1, hs1.mono hb, hc4, hs4.mono hb⟩ }
theorem Sl.ptc_at {w : World} {A : Option Addr} {l : List Ptc} (h : Sl Lay.ptc w A l) {i : Nat} (hi : i < l.length) : ∃ (b o : Nat) (A1 : Option Addr) (c1 : Nat) (A4 : Option Addr) (c4 : Nat), A = some ⟨b, o, none⟩ ∧ b < w.heap.size ∧ w.cell? ⟨b, o + i * 5, none⟩ = some (.string l[i].cls) ∧ w.cell? ⟨b, o + i * 5 + 1, none⟩ = some (.slice A1 l[i].states.length c1) ∧ w.cell? ⟨b, o + i * 5 + 2, none⟩ = some (.int .i64 l[i].start) ∧ w.cell? ⟨b, o + i * 5 + 3, none⟩ = some (.int .i64 l[i].err) ∧ w.cell? ⟨b, o + i * 5 + 4, none⟩ = some (.slice A4 l[i].moves.length c4) ∧ l[i].states.length ≤ c1 ∧ Sl Lay.str w A1 l[i].states ∧ l[i].moves.length ≤ c4 ∧ Sl Lay.mov w A4 l[i].moves := by
  obtain ⟨b, o, vs, e, hlt, hr, hc⟩ := h i l[i] (List.getElem?_eq_getElem hi)
  obtain ⟨A1, c1, A4, c4, rfl, hc1, hs1, hc4, hs4⟩ := hr
  exact ⟨b, o, A1, c1, A4, c4, e, hlt, hc 0 _ rfl, hc 1 _ rfl, hc 2 _ rfl, hc 3 _ rfl, hc 4 _ rfl, hc1, hs1, hc4, hs4⟩
def Ptc.Ok (x : Ptc) : Prop := (x.cls.size ≤ maxLen) ∧ (x.states.length ≤ maxLen ∧ ∀ y ∈ x.states, y.size ≤ maxLen) ∧ (I64 x.start) ∧ (I64 x.err) ∧ (x.moves.length ≤ maxLen ∧ ∀ y ∈ x.moves, y.Ok)
theorem opensPtc : Opens Tryz.prog 63 Lay.ptc Ptc.Ok :=
  (Opens.struct (L := Lay.str.and ((Lay.str).slice.and (Lay.int.and (Lay.int.and ((Lay.mov).slice.and Lay.unit))))) Tryz.underlying63 (by kernel_rfl) (OpensF.cons rfl (by kernel_rfl) (Opens.str Tryz.underlying9) (OpensF.cons rfl (by kernel_rfl) (Opens.slice Tryz.underlying38 (by kernel_rfl) (by decide) (Opens.str Tryz.underlying9)) (OpensF.cons rfl (by kernel_rfl) (Opens.int Tryz.underlying3) (OpensF.cons rfl (by kernel_rfl) (Opens.int Tryz.underlying3) (OpensF.cons rfl (by kernel_rfl) (Opens.slice Tryz.underlying61 (by kernel_rfl) (by decide) opensMov) OpensF.nil)))))).turn (fun x => ⟨x.1, x.2.1, x.2.2.1, x.2.2.2.1, x.2.2.2.2.1⟩)
    (by rintro w ⟨x0, x1, x2, x3, x4, u⟩ vs ⟨us0, ts0, rfl, h0, us1, ts1, rfl, ⟨A1, c1, rfl, hc1, hs1⟩, us2, ts2, rfl, h2, us3, ts3, rfl, h3, us4, ts4, rfl, ⟨A4, c4, rfl, hc4, hs4⟩, hu⟩
        obtain rfl : us0 = [.string x0] := h0
        obtain rfl : us2 = [.int .i64 x2] := h2
        obtain rfl : us3 = [.int .i64 x3] := h3
        obtain rfl : ts4 = [] := hu
        exact ⟨A1, c1, A4, c4, rfl, hc1, hs1, hc4, hs4⟩)
    (by rintro ⟨x0, x1, x2, x3, x4, u⟩ ⟨o0, o1, o2, o3, o4, hu⟩; exact ⟨o0, o1, o2, o3, o4⟩)

structure Pol where
  rules : List Rul
  protocols : List Ptc
def Lay.pol : Lay Pol :=
  { size := 2, rep := fun w x vs => ∃ (A0 : Option Addr) (c0 : Nat) (A1 : Option Addr) (c1 : Nat), vs = [.slice A0 x.rules.length c0, .slice A1 x.protocols.length c1] ∧ x.rules.length ≤ c0 ∧ Sl Lay.rul w A0 x.rules ∧ x.protocols.length ≤ c1 ∧ Sl Lay.ptc w A1 x.protocols,
    len := fun ⟨A0, c0, A1, c1, e, hc0, hs0, hc1, hs1⟩ => by rw [e]; rfl,
    mono := fun hb ⟨A0, c0, A1, c1, e, hc0, hs0, hc1, hs1⟩ => ⟨A0, c0, A1, c1, e, hc0, hs0.mono hb, hc1, hs1.mono hb⟩ }
theorem Sl.pol_at {w : World} {A : Option Addr} {l : List Pol} (h : Sl Lay.pol w A l) {i : Nat} (hi : i < l.length) : ∃ (b o : Nat) (A0 : Option Addr) (c0 : Nat) (A1 : Option Addr) (c1 : Nat), A = some ⟨b, o, none⟩ ∧ b < w.heap.size ∧ w.cell? ⟨b, o + i * 2, none⟩ = some (.slice A0 l[i].rules.length c0) ∧ w.cell? ⟨b, o + i * 2 + 1, none⟩ = some (.slice A1 l[i].protocols.length c1) ∧ l[i].rules.length ≤ c0 ∧ Sl Lay.rul w A0 l[i].rules ∧ l[i].protocols.length ≤ c1 ∧ Sl Lay.ptc w A1 l[i].protocols := by
  obtain ⟨b, o, vs, e, hlt, hr, hc⟩ := h i l[i] (List.getElem?_eq_getElem hi)
  obtain ⟨A0, c0, A1, c1, rfl, hc0, hs0, hc1, hs1⟩ := hr
  exact ⟨b, o, A0, c0, A1, c1, e, hlt, hc 0 _ rfl, hc 1 _ rfl, hc0, hs0, hc1, hs1⟩
def Pol.Ok (x : Pol) : Prop := (x.rules.length ≤ maxLen ∧ ∀ y ∈ x.rules, y.Ok) ∧ (x.protocols.length ≤ maxLen ∧ ∀ y ∈ x.protocols, y.Ok)
theorem opensPol : Opens Tryz.prog 25 Lay.pol Pol.Ok :=
  (Opens.struct (L := (Lay.rul).slice.and ((Lay.ptc).slice.and Lay.unit)) Tryz.underlying25 (by kernel_rfl) (OpensF.cons rfl (by kernel_rfl) (Opens.slice Tryz.underlying22 (by kernel_rfl) (by decide) opensRul) (OpensF.cons rfl (by kernel_rfl) (Opens.slice Tryz.underlying23 (by kernel_rfl) (by decide) opensPtc) OpensF.nil))).turn (fun x => ⟨x.1, x.2.1⟩)
    (by rintro w ⟨x0, x1, u⟩ vs ⟨us0, ts0, rfl, ⟨A0, c0, rfl, hc0, hs0⟩, us1, ts1, rfl, ⟨A1, c1, rfl, hc1, hs1⟩, hu⟩
        obtain rfl : ts1 = [] := hu
        exact ⟨A0, c0, A1, c1, rfl, hc0, hs0, hc1, hs1⟩)
    (by rintro ⟨x0, x1, u⟩ ⟨o0, o1, hu⟩; exact ⟨o0, o1⟩)

end Go.Proofs.YthabojhnliomnaaGreatDoor
