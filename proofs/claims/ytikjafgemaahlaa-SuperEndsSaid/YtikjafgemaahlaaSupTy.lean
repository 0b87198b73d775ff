/-
  Chapter 27: the data of supergraphs, and how they are laid.
-/
import Derived.Test.YtikjafgemaahlaaOpen
import Derived.Test.YtikjafgemaahlaaProg
namespace Go.Proofs.Ytikjafgemaahlaa
open Go.RowKit
set_option linter.unusedVariables false

structure Nd where
  fn : Int
  kind : Int
  instr : Int
def cellsNd (x : Nd) : List Value := [.int .i64 x.fn, .int .i64 x.kind, .int .i64 x.instr]
theorem cellsNd_ok : CellsOk cellsNd 3 := ⟨fun _ => rfl, fun _ u hu => by simp [cellsNd] at hu; rcases hu with rfl | rfl | rfl <;> rfl⟩
def Lay.nd : Lay Nd := Lay.plain 3 cellsNd fun _ => rfl
theorem Sl.nd_at {w : World} {A : Option Addr} {l : List Nd} (h : Sl Lay.nd w A l) {i : Nat} (hi : i < l.length) : ∃ (b o : Nat), A = some ⟨b, o, none⟩ ∧ b < w.heap.size ∧ w.cell? ⟨b, o + i * 3, none⟩ = some (.int .i64 l[i].fn) ∧ w.cell? ⟨b, o + i * 3 + 1, none⟩ = some (.int .i64 l[i].kind) ∧ w.cell? ⟨b, o + i * 3 + 2, none⟩ = some (.int .i64 l[i].instr) := by
  obtain ⟨b, o, vs, e, hlt, hr, hc⟩ := h i l[i] (List.getElem?_eq_getElem hi)
  have hr' : vs = cellsNd l[i] := hr
  subst hr'
  exact ⟨b, o, e, hlt, hc 0 _ rfl, hc 1 _ rfl, hc 2 _ rfl⟩
def Nd.Ok (x : Nd) : Prop := (I64 x.fn) ∧ (I64 x.kind) ∧ (I64 x.instr)
theorem opensNd : Opens Try.prog 36 Lay.nd Nd.Ok :=
  (Opens.struct (L := Lay.int.and (Lay.int.and (Lay.int.and Lay.unit))) Try.underlying36 (by kernel_rfl) (OpensF.cons rfl (by kernel_rfl) (Opens.int Try.underlying3) (OpensF.cons rfl (by kernel_rfl) (Opens.int Try.underlying3) (OpensF.cons rfl (by kernel_rfl) (Opens.int Try.underlying3) OpensF.nil)))).turn (fun x => ⟨x.1, x.2.1, x.2.2.1⟩)
    (by rintro w ⟨x0, x1, x2, u⟩ vs ⟨us0, ts0, rfl, h0, us1, ts1, rfl, h1, us2, ts2, rfl, h2, hu⟩
        obtain rfl : us0 = [.int .i64 x0] := h0
        obtain rfl : us1 = [.int .i64 x1] := h1
        obtain rfl : us2 = [.int .i64 x2] := h2
        obtain rfl : ts2 = [] := hu
        rfl)
    (by rintro ⟨x0, x1, x2, u⟩ ⟨o0, o1, o2, hu⟩; exact ⟨o0, o1, o2⟩)

structure Sed where
  src : Int
  dst : Int
  kind : Int
  call : Int
def cellsSed (x : Sed) : List Value := [.int .i64 x.src, .int .i64 x.dst, .int .i64 x.kind, .int .i64 x.call]
theorem cellsSed_ok : CellsOk cellsSed 4 := ⟨fun _ => rfl, fun _ u hu => by simp [cellsSed] at hu; rcases hu with rfl | rfl | rfl | rfl <;> rfl⟩
def Lay.sed : Lay Sed := Lay.plain 4 cellsSed fun _ => rfl
theorem Sl.sed_at {w : World} {A : Option Addr} {l : List Sed} (h : Sl Lay.sed w A l) {i : Nat} (hi : i < l.length) : ∃ (b o : Nat), A = some ⟨b, o, none⟩ ∧ b < w.heap.size ∧ w.cell? ⟨b, o + i * 4, none⟩ = some (.int .i64 l[i].src) ∧ w.cell? ⟨b, o + i * 4 + 1, none⟩ = some (.int .i64 l[i].dst) ∧ w.cell? ⟨b, o + i * 4 + 2, none⟩ = some (.int .i64 l[i].kind) ∧ w.cell? ⟨b, o + i * 4 + 3, none⟩ = some (.int .i64 l[i].call) := by
  obtain ⟨b, o, vs, e, hlt, hr, hc⟩ := h i l[i] (List.getElem?_eq_getElem hi)
  have hr' : vs = cellsSed l[i] := hr
  subst hr'
  exact ⟨b, o, e, hlt, hc 0 _ rfl, hc 1 _ rfl, hc 2 _ rfl, hc 3 _ rfl⟩
def Sed.Ok (x : Sed) : Prop := (I64 x.src) ∧ (I64 x.dst) ∧ (I64 x.kind) ∧ (I64 x.call)
theorem opensSed : Opens Try.prog 33 Lay.sed Sed.Ok :=
  (Opens.struct (L := Lay.int.and (Lay.int.and (Lay.int.and (Lay.int.and Lay.unit)))) Try.underlying33 (by kernel_rfl) (OpensF.cons rfl (by kernel_rfl) (Opens.int Try.underlying3) (OpensF.cons rfl (by kernel_rfl) (Opens.int Try.underlying3) (OpensF.cons rfl (by kernel_rfl) (Opens.int Try.underlying3) (OpensF.cons rfl (by kernel_rfl) (Opens.int Try.underlying3) OpensF.nil))))).turn (fun x => ⟨x.1, x.2.1, x.2.2.1, x.2.2.2.1⟩)
    (by rintro w ⟨x0, x1, x2, x3, u⟩ vs ⟨us0, ts0, rfl, h0, us1, ts1, rfl, h1, us2, ts2, rfl, h2, us3, ts3, rfl, h3, hu⟩
        obtain rfl : us0 = [.int .i64 x0] := h0
        obtain rfl : us1 = [.int .i64 x1] := h1
        obtain rfl : us2 = [.int .i64 x2] := h2
        obtain rfl : us3 = [.int .i64 x3] := h3
        obtain rfl : ts3 = [] := hu
        rfl)
    (by rintro ⟨x0, x1, x2, x3, u⟩ ⟨o0, o1, o2, o3, hu⟩; exact ⟨o0, o1, o2, o3⟩)

structure Sup where
  nodes : List Nd
  edges : List Sed
  main : Int
def Lay.sup : Lay Sup :=
  { size := 3, rep := fun w x vs => ∃ (A0 : Option Addr) (c0 : Nat) (A1 : Option Addr) (c1 : Nat), vs = [.slice A0 x.nodes.length c0, .slice A1 x.edges.length c1, .int .i64 x.main] ∧ x.nodes.length ≤ c0 ∧ Sl Lay.nd w A0 x.nodes ∧ x.edges.length ≤ c1 ∧ Sl Lay.sed w A1 x.edges,
    len := fun ⟨A0, c0, A1, c1, e, hc0, hs0, hc1, hs1⟩ => by rw [e]; rfl,
    mono := fun hb ⟨A0, c0, A1, c1, e, hc0, hs0, hc1, hs1⟩ => ⟨A0, c0, A1, c1, e, hc0, hs0.mono hb, hc1, hs1.mono hb⟩ }
theorem Sl.sup_at {w : World} {A : Option Addr} {l : List Sup} (h : Sl Lay.sup w A l) {i : Nat} (hi : i < l.length) : ∃ (b o : Nat) (A0 : Option Addr) (c0 : Nat) (A1 : Option Addr) (c1 : Nat), A = some ⟨b, o, none⟩ ∧ b < w.heap.size ∧ w.cell? ⟨b, o + i * 3, none⟩ = some (.slice A0 l[i].nodes.length c0) ∧ w.cell? ⟨b, o + i * 3 + 1, none⟩ = some (.slice A1 l[i].edges.length c1) ∧ w.cell? ⟨b, o + i * 3 + 2, none⟩ = some (.int .i64 l[i].main) ∧ l[i].nodes.length ≤ c0 ∧ Sl Lay.nd w A0 l[i].nodes ∧ l[i].edges.length ≤ c1 ∧ Sl Lay.sed w A1 l[i].edges := by
  obtain ⟨b, o, vs, e, hlt, hr, hc⟩ := h i l[i] (List.getElem?_eq_getElem hi)
  obtain ⟨A0, c0, A1, c1, rfl, hc0, hs0, hc1, hs1⟩ := hr
  exact ⟨b, o, A0, c0, A1, c1, e, hlt, hc 0 _ rfl, hc 1 _ rfl, hc 2 _ rfl, hc0, hs0, hc1, hs1⟩
def Sup.Ok (x : Sup) : Prop := (x.nodes.length ≤ maxLen ∧ ∀ y ∈ x.nodes, y.Ok) ∧ (x.edges.length ≤ maxLen ∧ ∀ y ∈ x.edges, y.Ok) ∧ (I64 x.main)
theorem opensSup : Opens Try.prog 25 Lay.sup Sup.Ok :=
  (Opens.struct (L := (Lay.nd).slice.and ((Lay.sed).slice.and (Lay.int.and Lay.unit))) Try.underlying25 (by kernel_rfl) (OpensF.cons rfl (by kernel_rfl) (Opens.slice Try.underlying22 (by kernel_rfl) (by decide) opensNd) (OpensF.cons rfl (by kernel_rfl) (Opens.slice Try.underlying23 (by kernel_rfl) (by decide) opensSed) (OpensF.cons rfl (by kernel_rfl) (Opens.int Try.underlying3) OpensF.nil)))).turn (fun x => ⟨x.1, x.2.1, x.2.2.1⟩)
    (by rintro w ⟨x0, x1, x2, u⟩ vs ⟨us0, ts0, rfl, ⟨A0, c0, rfl, hc0, hs0⟩, us1, ts1, rfl, ⟨A1, c1, rfl, hc1, hs1⟩, us2, ts2, rfl, h2, hu⟩
        obtain rfl : us2 = [.int .i64 x2] := h2
        obtain rfl : ts2 = [] := hu
        exact ⟨A0, c0, A1, c1, rfl, hc0, hs0, hc1, hs1⟩)
    (by rintro ⟨x0, x1, x2, u⟩ ⟨o0, o1, o2, hu⟩; exact ⟨o0, o1, o2⟩)

end Go.Proofs.Ytikjafgemaahlaa
