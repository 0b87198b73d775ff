/-
  slices.Sort, slices.Compact, slices.Clone at []string on slices that the call owns; ascending lists of strings.
  strings.Builder: the writing methods, where the text of a panic that is never reached has been struck from the translation. (Turned from the shelf's walks.)
  Bytes: strings as lists of bytes, joined words. It holds no statement about the program's chapters.
  strings.Builder in memory that closures share. It holds no statement about the program's chapters.
  (As XPrsA, over XByt.) Lists of bytes cut at one byte, in plain words; strings.Cut, strings.Split at one byte.
-/
import Derived.Sort.OwnSorted
import Derived.Lib.RowBridge
import Derived.WalkSmall
import Derived.Lib.ItoaLen
import Derived.Test.YticpeombillmeaaGreatDoorJGa
import Derived.Test.YticpeombillmeaaGreatDoorJShelf
namespace Go.Proofs.YticpeombillmeaaGreatDoor
open Go.RowKit Go.Sort
set_option linter.unusedVariables false

def toL (s : ByteArray) : List UInt8 := s.data.toList
def ofL (l : List UInt8) : ByteArray := ⟨l.toArray⟩
theorem ofL_toL (s : ByteArray) : ofL (toL s) = s := rfl
theorem toL_ofL (l : List UInt8) : toL (ofL l) = l := rfl
theorem toL_inj {a b : ByteArray} (h : toL a = toL b) : a = b := by rw [← ofL_toL a, h, ofL_toL]
/-! ### The order of strings -/
theorem ltL_trans {a b c : List UInt8} (h1 : a < b) (h2 : b < c) : a < c := List.lt_trans h1 h2
theorem ltL_irrefl (a : List UInt8) : ¬ a < a := List.lt_irrefl a
theorem asc_extL : ∀ {l m : List (List UInt8)}, l.Pairwise (· < ·) → m.Pairwise (· < ·) → (∀ x, x ∈ l ↔ x ∈ m) → l = m
  | [], [], _, _, _ => rfl
  | [], b :: m, _, _, h => by have := (h b).2 (by simp); simp at this
  | a :: l, [], _, _, h => by have := (h a).1 (by simp); simp at this
  | a :: l, b :: m, hl, hm, h => by
    rw [List.pairwise_cons] at hl hm
    have hab : a = b := by
      have h1 := (h a).1 (by simp)
      have h2 := (h b).2 (by simp)
      simp only [List.mem_cons] at h1 h2
      rcases h1 with h1 | h1
      · exact h1
      · rcases h2 with h2 | h2
        · exact h2.symm
        · exact absurd (ltL_trans (hm.1 a h1) (hl.1 b h2)) (ltL_irrefl _)
    subst hab
    congr 1
    refine asc_extL hl.2 hm.2 fun x => ?_
    have hx := h x
    simp only [List.mem_cons] at hx
    constructor
    · intro h1
      rcases hx.1 (Or.inr h1) with h2 | h2
      · subst h2; exact absurd (hl.1 _ h1) (ltL_irrefl _)
      · exact h2
    · intro h1
      rcases hx.2 (Or.inr h1) with h2 | h2
      · subst h2; exact absurd (hm.1 _ h1) (ltL_irrefl _)
      · exact h2
theorem map_ofL_toL (l : List ByteArray) : (l.map toL).map ofL = l := by rw [List.map_map]; exact List.map_id l
theorem mem_map_toL {l : List ByteArray} {x : ByteArray} : toL x ∈ l.map toL ↔ x ∈ l := by
  rw [List.mem_map]
  constructor
  · rintro ⟨y, hy, e⟩; rw [← toL_inj e]; exact hy
  · intro h; exact ⟨x, h, rfl⟩
def AscS (l : List ByteArray) : Prop := l.Pairwise fun a b => toL a < toL b
theorem AscS.ext {l m : List ByteArray} (h1 : AscS l) (h2 : AscS m) (h : ∀ x, x ∈ l ↔ x ∈ m) : l = m := by
  rw [← map_ofL_toL l, ← map_ofL_toL m]
  congr 1
  refine asc_extL (List.pairwise_map.2 h1) (List.pairwise_map.2 h2) fun x => ?_
  have := h (ofL x)
  rw [← mem_map_toL, ← mem_map_toL, toL_ofL] at this
  exact this
/-! ### The calls -/
def cellsStr (x : ByteArray) : List Value := [.string x]
theorem cellsStr_ok : CellsOk cellsStr 1 := ⟨fun _ => rfl, fun _ u hu => by simp [cellsStr] at hu; subst hu; rfl⟩
theorem strsTy : ElemTy Tryz.prog 54 9 1 16 (.string ByteArray.empty) := ⟨Tryz.underlying54, by kernel_rfl, rfl, by omega⟩
def StrsV (w : World) (v : Value) (l : List ByteArray) : Prop := ∃ A c, v = .slice A l.length c ∧ l.length ≤ c ∧ Sl Lay.str w A l
theorem StrsV.of_own {base : Nat} {e : TypeId} {w : World} {v : Value} {l : List ByteArray} (h : Own cellsStr 1 base e w v l) : StrsV w v l := Own.sl (L := Lay.str) h rfl fun _ => rfl
theorem StrsV.mono {w w' : World} {v : Value} {l : List ByteArray} (h : StrsV w v l) (hb : Below w.heap.size w w') : StrsV w' v l := by
  obtain ⟨A, c, e, hc, hs⟩ := h
  exact ⟨A, c, e, hc, hs.mono hb⟩
end Go.Proofs.YticpeombillmeaaGreatDoor
namespace Go.Proofs.YticpeombillmeaaGreatDoor
open Go.RowKit Go.Shelf
set_option linter.unusedVariables false

set_option maxHeartbeats 1000000 in
set_option maxRecDepth 100000 in
theorem copyCheck_used (b : Nat) (w : World) (h0 : w.cell? ⟨b, 0, none⟩ = some (.pointer (some ⟨b, 0, none⟩))) :
    Calls Tryz.prog 45 #[.pointer (some ⟨b, 0, none⟩)] w fun e w' => e = .returned (.tuple #[]) ∧ w' = w := by
  obtain ⟨j, hj, _⟩ := Option.map_eq_some_iff.1 Tryz.Builder_Extra_169.toX72.sizeBuilder
  go_enter Tryz.func45, Tryz.ntmps45
  go_wp2
  rw [Lib.run_neq_ptr_same w _ Tryz.underlying50 hj]
  go_wp2
  go_end0
  exact ⟨rfl, rfl⟩
set_option maxHeartbeats 1000000 in
set_option maxRecDepth 100000 in
theorem copyCheck_fresh (b : Nat) (w : World) (h0 : w.cell? ⟨b, 0, none⟩ = some (.pointer none)) (hsh : w.shape? b = some (53, 2)) (hfz : w.frozen? ⟨b, 0, none⟩ = false) :
    Calls Tryz.prog 45 #[.pointer (some ⟨b, 0, none⟩)] w fun e w' => e = .returned (.tuple #[]) ∧ w' = w.setCell ⟨b, 0, none⟩ (.pointer (some ⟨b, 0, none⟩)) := by
  obtain ⟨j, hj, hjs⟩ := Option.map_eq_some_iff.1 Tryz.Builder_Extra_169.toX72.sizeBuilder
  go_enter Tryz.func45, Tryz.ntmps45
  go_wp2
  rw [Lib.run_to_unsafe w ⟨b, 0, none⟩ Tryz.underlying50 Tryz.underlying129 hj (by rw [hjs]; decide) hsh (Nat.zero_lt_succ 1)]
  simp only [Result.andThen]
  rw [Oper.upon_value]
  go_wp2
  rw [run_callFunc_extern Tryz.func77 (by kernel_rfl) (by kernel_rfl) (by kernel_rfl) (e := Extern.AbiNoEscape.same) (by kernel_rfl)]
  rw [Lib.run_noEscape]
  simp only [Result.andThen]
  rw [Oper.upon_value]
  go_wp2
  rw [Lib.run_from_unsafe w ⟨b, 0, none⟩ Tryz.underlying129 Tryz.underlying50 hj hsh Tryz.Builder_Extra_169.toX72.liesBuilder]
  simp only [Result.andThen]
  rw [Oper.upon_value]
  go_wp2
  go_end0
  exact ⟨rfl, rfl⟩
end Go.Proofs.YticpeombillmeaaGreatDoor
namespace Go.Proofs.YticpeombillmeaaGreatDoor
open Go.RowKit
set_option linter.unusedVariables false

theorem toL_len (a : ByteArray) : (toL a).length = a.size := by unfold toL; rw [Array.length_toList]; rfl
theorem mk_toL (a : ByteArray) : (⟨(toL a).toArray⟩ : ByteArray) = a := toL_inj rfl
def bsOf (l : List UInt8) : ByteArray := ⟨l.toArray⟩
theorem toL_bsOf (l : List UInt8) : toL (bsOf l) = l := rfl
theorem bsOf_toL {a : ByteArray} {l : List UInt8} (h : toL a = l) : a = bsOf l := by unfold bsOf; rw [← h, mk_toL]
theorem bsOf_size (l : List UInt8) : (bsOf l).size = l.length := by rw [← toL_len]; rfl
theorem flat_len {α : Type} (f : α → List UInt8) (m : Nat) : ∀ l : List α, (∀ x ∈ l, (f x).length ≤ m) → (l.flatMap f).length ≤ m * l.length
  | [], _ => by simp
  | x :: l, h => by
    rw [List.flatMap_cons, List.length_append, List.length_cons, Nat.mul_add]
    have h1 := h x (by simp)
    have h2 := flat_len f m l (fun y hy => h y (by simp [hy]))
    omega
theorem joinS {w : World} {b o : Nat} (c : Nat) (l : List ByteArray) (sep : ByteArray) (hs : Sl Lay.str w (some ⟨b, o, none⟩) l) (h0 : 0 < l.length) (hc : l.length ≤ c) (hl : l.length ≤ 1000) (hz : (Lib.join (l.map toL) (toL sep)).length ≤ 140737488355328) :
    Calls Tryz.prog 18 #[.slice (some ⟨b, o, none⟩) l.length c, .string sep] w fun e w' => e = .returned (.string (bsOf (Lib.join (l.map toL) (toL sep)))) ∧ Below w.heap.size w w' := by
  refine Tryz.strings_Join b o c l sep w (fun j x hj => ?_) ?_ (by omega) hc hz
  · obtain ⟨hj2, rfl⟩ := List.getElem?_eq_some_iff.1 hj
    obtain ⟨b', o', e, _, hcl⟩ := hs.str_at hj2
    injection e with e
    injection e with e1 e2
    subst e1 e2
    exact hcl
  · obtain ⟨b', o', e, hlt, _⟩ := hs.str_at h0
    injection e with e
    injection e with e1 e2
    subst e1 e2
    exact hlt
theorem joinTail_flat (sep : List UInt8) : ∀ r : List (List UInt8), Lib.joinTail sep r = r.flatMap (fun x => sep ++ x)
  | [] => rfl
  | x :: r => by
    rw [List.flatMap_cons, ← joinTail_flat sep r]
    simp [Lib.joinTail]
/-- Words with a space between, and a line feed. -/
def lineT (ws : List (List UInt8)) : List UInt8 := Lib.join ws [32] ++ [10]
/-- A box of strings reads as a list. -/
theorem Box.strs {w : World} {b : Nat} {l : List ByteArray} {t : TypeId} (h : Box w b (l.map Value.string) t) : Sl Lay.str w (some ⟨b, 0, none⟩) l := fun i x hx => by
  refine ⟨b, 0, [.string x], rfl, h.lt, rfl, fun j v hj => ?_⟩
  have hj0 : j = 0 := by
    have := (List.getElem?_eq_some_iff.1 hj).1
    simp at this
    exact this
  subst hj0
  simp at hj
  subst hj
  rw [show (0 : Nat) + i * Lay.str.size + 0 = i by show 0 + i * 1 + 0 = i; omega]
  exact h.cell i (by rw [List.getElem?_map, hx]; rfl)
end Go.Proofs.YticpeombillmeaaGreatDoor
namespace Go.Proofs.YticpeombillmeaaGreatDoor
open Go.RowKit
set_option linter.unusedVariables false

theorem below_growN (w : World) (k : Nat) (os : Array Obj) : Below w.heap.size w (Go.Sort.grow (w.drewN k) os) :=
  ⟨rfl, rfl, rfl, by show w.heap.size ≤ (w.heap ++ os).size; rw [Array.size_append]; omega, fun j hj => by show (w.heap ++ os)[j]? = _; rw [Array.getElem?_append_left hj]⟩
theorem cell_lt {w : World} {b o : Nat} {v : Value} (h : w.cell? ⟨b, o, none⟩ = some v) : b < w.heap.size := (cell_form h).2
/-! ### Builders in memory that closures share -/
/-- Boxes of other types than a builder's stay. -/
def Keeps (w w' : World) : Prop := ∀ (k : Nat) (cs : Array Value) (t : TypeId), t ≠ 5 → t ≠ 53 → w.heap[k]? = some (.cells cs t (0, 0)) → w'.heap[k]? = some (.cells cs t (0, 0))
theorem Keeps.refl (w : World) : Keeps w w := fun _ _ _ _ _ h => h
theorem Keeps.trans {a b c : World} (h : Keeps a b) (k : Keeps b c) : Keeps a c := fun i cs t h1 h2 h3 => k i cs t h1 h2 (h i cs t h1 h2 h3)
theorem Keeps.below {w w' : World} (h : Below w.heap.size w w') : Keeps w w' := fun k cs t _ _ hk => by rw [h.block k (Array.getElem?_eq_some_iff.1 hk).1]; exact hk
theorem Keeps.box {w w' : World} {b : Nat} {cs : List Value} {t : TypeId} (h : Keeps w w') (h1 : t ≠ 5) (h2 : t ≠ 53) (hb : Box w b cs t) : Box w' b cs t := h b _ t h1 h2 hb
theorem Keeps.set {w : World} {b i : Nat} {cs : Array Value} {v : Value} (hb : w.heap[b]? = some (.cells cs 53 (0, 0))) : Keeps w (w.setCell ⟨b, i, none⟩ v) := fun k ds t _ h2 hk => by
  have hne : b ≠ k := fun e => by
    subst e
    rw [hb] at hk
    injection hk with hk
    injection hk with _ ht
    exact h2 ht.symm
  show (w.setCell ⟨b, i, none⟩ v).heap[k]? = _
  unfold World.setCell
  simp only [Array.getElem?_modify, if_neg hne]
  exact hk
theorem Keeps.grown {w w' : World} {v : Value} {n : Nat} {xs : List Value} {B : Nat} (hown : w.ownsRow B 5 1 v n xs) (hg : w.grownBy w' v.ownBlock) : Keeps w w' := fun k cs t h1 _ hk => by
  rw [hg.block k (Array.getElem?_eq_some_iff.1 hk).1 ?_]
  · exact hk
  · intro he
    rcases hown.2 with ⟨rfl, _⟩ | ⟨g, cap, cur, rfl, _, hh, _⟩
    · simp [Value.ownBlock] at he
    · have : k = g := by simpa [Value.ownBlock] using he
      subst this
      rw [hk] at hh
      injection hh with hh
      injection hh with _ ht
      exact h1 ht
theorem copyCheckK (B b : Nat) (bs : List Value) (w : World) (h : Lib.IsBuilder 53 5 B b bs w) :
    Calls Tryz.prog 45 #[.pointer (some ⟨b, 0, none⟩)] w fun e w' => e = .returned (.tuple #[]) ∧ (Lib.BuilderAt 53 5 B b (.pointer (some ⟨b, 0, none⟩)) bs w' ∧ Below B w w' ∧ Keeps w w') := by
  rcases h with h | h
  · refine (copyCheck_fresh b w h.cell0 h.shape h.frozen0).mono ?_
    rintro e w' ⟨rfl, rfl⟩
    obtain ⟨hB, v, hbk, _⟩ := id h
    exact ⟨rfl, h.used _, (Below.refl B w).setCell (p := ⟨b, 0, none⟩) h.1 _, Keeps.set hbk⟩
  · refine (copyCheck_used b w h.cell0).mono ?_
    rintro e w' ⟨rfl, rfl⟩
    exact ⟨rfl, h, Below.refl B _, Keeps.refl _⟩
set_option maxHeartbeats 2000000 in
set_option maxRecDepth 100000 in
theorem writeStringK (B b : Nat) (bs : List Value) (s : ByteArray) (w : World) (h : Lib.IsBuilder 53 5 B b bs w) (hlen : bs.length + s.size ≤ 140737488355328) (hBw : B ≤ w.heap.size) :
    Calls Tryz.prog 17 #[.pointer (some ⟨b, 0, none⟩), .string s] w fun e w' => e = .returned (.tuple #[.int .i64 s.size, .nilIface]) ∧ (Lib.BuilderAt 53 5 B b (.pointer (some ⟨b, 0, none⟩)) (bs ++ Lib.strCells s) w' ∧ Below B w w' ∧ Keeps w w') := by
  obtain ⟨i0, hi, hz0, hz1, hz2⟩ := info_parts Tryz.Builder_Extra_169.infoByte
  go_enter Tryz.func17, Tryz.ntmps17
  go_wp2_with fail
  refine (copyCheckK B b bs _ h).mono ?_
  rintro e w1 ⟨rfl, h1, hb1, hk1⟩
  obtain ⟨hB, v, hbk, hown, hne⟩ := h1
  have c0 : w1.cell? ⟨b, 0, none⟩ = some (.pointer (some ⟨b, 0, none⟩)) := by rw [Lib.cell_of_heap hbk]; rfl
  have c1 : w1.cell? ⟨b, 1, none⟩ = some v := by rw [Lib.cell_of_heap hbk]; rfl
  have hlt : b < w1.heap.size := (Array.getElem?_eq_some_iff.1 hbk).1
  have HK := Lib.hid hk1
  clear hk1
  go_wp2_with (at_builtin; refine Lib.wpList_append_own_string _ rfl _ _ 51 9 rfl B 5 i0 Tryz.underlying51 Tryz.underlying9 hi hz0 hz1 hz2 _ _ _ rfl hown s rfl ?c3 ?c4 ?c5 ?_)
  case c3 => unfold maxLen; omega
  case c4 => omega
  case c5 => have := hb1.size; omega
  intro v' w2 hown' hgrow _
  have HK2 : Hid (Keeps w1 w2) := Lib.hid (Keeps.grown hown hgrow)
  have hb2 : w2.heap[b]? = some (.cells #[.pointer (some ⟨b, 0, none⟩), v] 53 (0, 0)) := by
    rw [hgrow.block b hlt (fun e => hne e.symm)]
    exact hbk
  have d0 : w2.cell? ⟨b, 0, none⟩ = some (.pointer (some ⟨b, 0, none⟩)) := by rw [Lib.cell_of_heap hb2]; rfl
  have d1 : w2.cell? ⟨b, 1, none⟩ = some v := by rw [Lib.cell_of_heap hb2]; rfl
  have f1 : w2.frozen? ⟨b, 1, none⟩ = false := Lib.frozen_of_heap hb2 1
  have hl2 : b < w2.heap.size := (Array.getElem?_eq_some_iff.1 hb2).1
  obtain ⟨ao, n', cap, rfl⟩ : ∃ ao n' cap, v' = .slice ao n' cap := by
    rcases hown'.2 with ⟨hv, _⟩ | ⟨g, cap, cur, hv, _⟩
    · exact ⟨_, _, _, hv⟩
    · exact ⟨_, _, _, hv⟩
  go_wp2
  go_ret2
  refine ⟨rfl, ?_, ?_, (HK.out.trans HK2.out).trans (Keeps.set hb2)⟩
  · exact Lib.BuilderAt.put (T := 53) (e := 5) hB hb2 (bs' := bs ++ Lib.strCells s) (by simpa [Lib.strCells_length] using hown') Tryz.Builder_Extra_169.neB5
  · exact (hb1.grown hgrow (by have := hb1.size; omega) (fun k hk => (hown.lt k hk).1)).setCell (p := ⟨b, 1, none⟩) hB _
theorem bldAt_mono {T e : TypeId} {B b : Nat} {p : Value} {bs : List Value} {w w' : World} (h : Lib.BuilderAt T e B b p bs w) (hb : Below w.heap.size w w') : Lib.BuilderAt T e B b p bs w' := by
  obtain ⟨hB, v, hbk, hown, hne⟩ := h
  exact ⟨hB, v, (hb.block b (Array.getElem?_eq_some_iff.1 hbk).1).trans hbk, World.ownsRow.kept hown (row := none) ⟨hb.os, hb.tape, hb.output, hb.size, fun k hk _ => hb.block k hk⟩ (by cases v.ownBlock <;> simp), hne⟩
theorem isBld_mono {T e : TypeId} {B b : Nat} {bs : List Value} {w w' : World} (h : Lib.IsBuilder T e B b bs w) (hb : Below w.heap.size w w') : Lib.IsBuilder T e B b bs w' := h.imp (fun h => bldAt_mono h hb) (fun h => bldAt_mono h hb)
def BldL (b : Nat) (l : List UInt8) (w : World) : Prop := Lib.IsBuilder 53 5 b b (Lib.byteCells l) w
theorem BldL.lt {b : Nat} {l : List UInt8} {w : World} (h : BldL b l w) : b < w.heap.size := by
  rcases h with ⟨_, v, hb, _⟩ | ⟨_, v, hb, _⟩
  · exact (Array.getElem?_eq_some_iff.1 hb).1
  · exact (Array.getElem?_eq_some_iff.1 hb).1
theorem BldL.mono {b : Nat} {l : List UInt8} {w w' : World} (h : BldL b l w) (hb : Below w.heap.size w w') : BldL b l w' := isBld_mono h hb
theorem wrK {b : Nat} {l : List UInt8} {w : World} (s : ByteArray) (h : BldL b l w) (hl : l.length + s.size ≤ 140737488355328) :
    Calls Tryz.prog 17 #[.pointer (some ⟨b, 0, none⟩), .string s] w fun e w' => e = .returned (.tuple #[.int .i64 s.size, .nilIface]) ∧ BldL b (l ++ toL s) w' ∧ Below b w w' ∧ Keeps w w' := by
  refine (writeStringK b b _ s w h (by rw [Lib.byteCells_length]; omega) (Nat.le_of_lt h.lt)).mono fun e w' ⟨h1, h2, h3⟩ => ⟨h1, Or.inr ?_, h3⟩
  rw [Lib.byteCells_append]
  exact h2
set_option maxHeartbeats 2000000 in
set_option maxRecDepth 100000 in
theorem writeByteK (B b : Nat) (bs : List Value) (c : Int) (w : World) (h : Lib.IsBuilder 53 5 B b bs w) (hlen : bs.length + 1 ≤ 140737488355328) (hBw : B ≤ w.heap.size) :
    Calls Tryz.prog 19 #[.pointer (some ⟨b, 0, none⟩), .int .u8 c] w fun e w' => e = .returned .nilIface ∧ (Lib.BuilderAt 53 5 B b (.pointer (some ⟨b, 0, none⟩)) (bs ++ [.int .u8 c]) w' ∧ Below B w w' ∧ Keeps w w') := by
  obtain ⟨i0, hi, hz0, hz1, hz2⟩ := info_parts Tryz.Builder_Extra_169.infoByte
  go_enter Tryz.func19, Tryz.ntmps19
  go_wp2_with fail
  refine (copyCheckK B b bs _ h).mono ?_
  rintro e w1 ⟨rfl, h1, hb1, hk1⟩
  obtain ⟨hB, v, hbk, hown, hne⟩ := h1
  have c0 : w1.cell? ⟨b, 0, none⟩ = some (.pointer (some ⟨b, 0, none⟩)) := by rw [Lib.cell_of_heap hbk]; rfl
  have c1 : w1.cell? ⟨b, 1, none⟩ = some v := by rw [Lib.cell_of_heap hbk]; rfl
  have hlt : b < w1.heap.size := (Array.getElem?_eq_some_iff.1 hbk).1
  have HK := Lib.hid hk1
  clear hk1
  go_wp2_with (at_builtin; refine wpList_append_own _ rfl _ _ 51 rfl B 5 i0 (.int .u8 0) 1 1 Tryz.underlying51 hi hz0 hz1 hz2 rfl (by decide) _ _ _ rfl (hown.alloc _) ⟨w1.heap.size, 0, none⟩ 1 1 [.int .u8 c] rfl rfl ?c1 ?c2 ?c3 ?c4 ?c5 ?_)
  case c1 =>
    intro j u hj
    match j, hj with
    | 0, hj => simp at hj; subst hj; simp [Addr.add]
  case c2 => intro u hu; simp at hu; subst hu; rfl
  case c3 => unfold maxLen; omega
  case c4 => omega
  case c5 => have := hb1.size; simp; omega
  intro v' w2 hown' hgrow _
  have HK2 : Hid (Keeps w1 w2) := Lib.hid ((Keeps.below (bw_alloc (Below.refl _ _))).trans (Keeps.grown (hown.alloc _) hgrow))
  have hb2 : w2.heap[b]? = some (.cells #[.pointer (some ⟨b, 0, none⟩), v] 53 (0, 0)) := by
    rw [hgrow.block b (by simp; omega) (fun e => hne e.symm), Lib.alloc_old w1 _ b hlt]
    exact hbk
  have d0 : w2.cell? ⟨b, 0, none⟩ = some (.pointer (some ⟨b, 0, none⟩)) := by rw [Lib.cell_of_heap hb2]; rfl
  have d1 : w2.cell? ⟨b, 1, none⟩ = some v := by rw [Lib.cell_of_heap hb2]; rfl
  have f1 : w2.frozen? ⟨b, 1, none⟩ = false := Lib.frozen_of_heap hb2 1
  have hl2 : b < w2.heap.size := (Array.getElem?_eq_some_iff.1 hb2).1
  obtain ⟨g, cap, rfl⟩ : ∃ g cap, v' = .slice (some ⟨g, 0, none⟩) (bs.length + 1) cap := by
    rcases hown'.2 with ⟨_, h0⟩ | ⟨g, cap, cur, hv, _⟩
    · omega
    · exact ⟨g, cap, hv⟩
  go_wp2
  go_ret
  refine ⟨rfl, ?_, ?_, (HK.out.trans HK2.out).trans (Keeps.set hb2)⟩
  · exact Lib.BuilderAt.put (T := 53) (e := 5) hB hb2 (bs' := bs ++ [.int .u8 c]) (by simpa using hown') Tryz.Builder_Extra_169.neB5
  · exact ((hb1.alloc (by have := hb1.size; omega) _).grown hgrow (by have := hb1.size; simp; omega) (fun k hk => (hown.lt k hk).1)).setCell (p := ⟨b, 1, none⟩) hB _
theorem wrB {b : Nat} {l : List UInt8} {w : World} (c : UInt8) (h : BldL b l w) (hl : l.length + 1 ≤ 140737488355328) :
    Calls Tryz.prog 19 #[.pointer (some ⟨b, 0, none⟩), .int .u8 (c.toNat : Int)] w fun e w' => e = .returned .nilIface ∧ BldL b (l ++ [c]) w' ∧ Below b w w' ∧ Keeps w w' := by
  refine (writeByteK b b _ (c.toNat : Int) w h (by rw [Lib.byteCells_length]; omega) (Nat.le_of_lt h.lt)).mono fun e w' ⟨h1, h2, h3⟩ => ⟨h1, Or.inr ?_, h3⟩
  rw [Lib.byteCells_append]
  exact h2
end Go.Proofs.YticpeombillmeaaGreatDoor
namespace Go.Proofs.YticpeombillmeaaGreatDoor
open Go.RowKit
set_option linter.unusedVariables false

/-- The pieces between the bytes c: at least one. -/
def spl (c : UInt8) : List UInt8 → List (List UInt8)
  | [] => [[]]
  | x :: r => if x = c then [] :: spl c r else match spl c r with
    | h :: t => (x :: h) :: t
    | [] => [[x]]
theorem spl_ne (c : UInt8) : ∀ l, spl c l ≠ []
  | [] => by simp [spl]
  | x :: r => by
    unfold spl
    split
    · simp
    · split <;> simp
theorem spl_free {c : UInt8} : ∀ {l : List UInt8}, c ∉ l → spl c l = [l]
  | [], _ => rfl
  | x :: r, h => by
    have h1 : x ≠ c := fun e => h (by rw [e]; simp)
    have h2 : c ∉ r := fun e => h (by simp [e])
    unfold spl
    rw [if_neg h1, spl_free h2]
theorem spl_mid {c : UInt8} : ∀ {a t : List UInt8}, c ∉ a → spl c (a ++ c :: t) = a :: spl c t
  | [], t, _ => by simp [spl]
  | x :: r, t, h => by
    have h1 : x ≠ c := fun e => h (by rw [e]; simp)
    have h2 : c ∉ r := fun e => h (by simp [e])
    rw [List.cons_append, spl, if_neg h1, spl_mid h2]
theorem spl_cases (c : UInt8) (l : List UInt8) : (c ∉ l ∧ spl c l = [l]) ∨ ∃ a t, l = a ++ c :: t ∧ c ∉ a ∧ spl c l = a :: spl c t := by
  by_cases h : c ∈ l
  · obtain ⟨a, t, rfl, ha⟩ := List.eq_append_cons_of_mem h
    exact Or.inr ⟨a, t, rfl, ha, spl_mid ha⟩
  · exact Or.inl ⟨h, spl_free h⟩
/-- The pieces put together again. -/
def glue (c : UInt8) : List (List UInt8) → List UInt8
  | [] => []
  | [x] => x
  | x :: y :: r => x ++ c :: glue c (y :: r)
theorem glue_spl (c : UInt8) : ∀ l, glue c (spl c l) = l
  | [] => rfl
  | x :: r => by
    have ih := glue_spl c r
    unfold spl
    split
    · rename_i e
      subst e
      cases hs : spl x r with
      | nil => exact absurd hs (spl_ne _ _)
      | cons y t => rw [hs] at ih; simp [glue, ih]
    · cases hs : spl c r with
      | nil => exact absurd hs (spl_ne _ _)
      | cons y t =>
        rw [hs] at ih
        cases t with
        | nil => simp [glue] at ih ⊢; exact ih
        | cons z t => simp [glue] at ih ⊢; exact ih
theorem spl_glue {c : UInt8} : ∀ {ls : List (List UInt8)}, ls ≠ [] → (∀ x ∈ ls, c ∉ x) → spl c (glue c ls) = ls
  | [], h, _ => absurd rfl h
  | [x], _, h => spl_free (h x (by simp))
  | x :: y :: r, _, h => by
    rw [glue, spl_mid (h x (by simp)), spl_glue (by simp) (fun z hz => h z (by simp [hz]))]
theorem index_free {c : UInt8} : ∀ {l : List UInt8}, c ∉ l → Lib.index l [c] = -1
  | [], _ => rfl
  | x :: r, h => by
    have h1 : ¬ c = x := fun e => h (by rw [e]; simp)
    have h2 : c ∉ r := fun e => h (by simp [e])
    unfold Lib.index
    rw [index_free h2]
    simp [h1]
theorem index_mid {c : UInt8} : ∀ {a t : List UInt8}, c ∉ a → Lib.index (a ++ c :: t) [c] = a.length
  | [], t, _ => by simp [Lib.index]
  | x :: r, t, h => by
    have h1 : ¬ c = x := fun e => h (by rw [e]; simp)
    have h2 : c ∉ r := fun e => h (by simp [e])
    rw [List.cons_append]
    unfold Lib.index
    rw [index_mid h2]
    have h3 : ((r.length : Int) == -1) = false := by rw [beq_eq_false_iff_ne]; omega
    simp [h1, h3]
theorem cut_free {c : UInt8} {l : List UInt8} (h : c ∉ l) : Lib.cut l [c] = (l, [], false) := by
  unfold Lib.cut
  rw [index_free h]
  simp
theorem cut_mid {c : UInt8} {a t : List UInt8} (h : c ∉ a) : Lib.cut (a ++ c :: t) [c] = (a, t, true) := by
  unfold Lib.cut
  rw [index_mid h, if_pos (by omega), Int.toNat_natCast]
  simp
theorem splitB_spl (c : UInt8) : ∀ (n : Nat) (s : ByteArray), s.size ≤ n → (Lib.splitB ⟨#[c]⟩ 0 (Lib.countB s ⟨#[c]⟩) s).map toL = spl c (toL s) ∧ Lib.countB s ⟨#[c]⟩ + 1 = (spl c (toL s)).length
  | n, s, hn => by
    rcases spl_cases c (toL s) with ⟨h1, h2⟩ | ⟨a, t, h, ha, h2⟩
    · have hi : Lib.indexB s ⟨#[c]⟩ = -1 := index_free h1
      rw [Lib.countB_miss s _ hi, Lib.splitB_zero, h2]
      exact ⟨rfl, rfl⟩
    · have hi : Lib.indexB s ⟨#[c]⟩ = (a.length : Nat) := by
        show Lib.index (toL s) [c] = _
        rw [h]
        exact index_mid ha
      have hsz : s.size = a.length + 1 + t.length := by rw [← toL_len, h]; simp; omega
      have e1 : toL (s.extract 0 (a.length + 0)) = a := by
        show (s.extract 0 (a.length + 0)).data.toList = a
        rw [Lib.extract_from_zero]
        show (toL s).take _ = a
        rw [h]
        simp
      have e2 : toL (s.extract (a.length + (⟨#[c]⟩ : ByteArray).size) s.size) = t := by
        show (s.extract (a.length + 1) s.size).data.toList = t
        rw [Lib.extract_to_end]
        show (toL s).drop _ = t
        rw [h]
        simp
      have hlt : (s.extract (a.length + (⟨#[c]⟩ : ByteArray).size) s.size).size = t.length := by rw [← toL_len, e2]
      match n, hn with
      | 0, hn => omega
      | n + 1, hn =>
        obtain ⟨i1, i2⟩ := splitB_spl c n (s.extract (a.length + (⟨#[c]⟩ : ByteArray).size) s.size) (by rw [hlt]; omega)
        rw [e2] at i1 i2
        rw [Lib.countB_hit s ⟨#[c]⟩ a.length (Nat.le_refl 1) hi, Nat.add_comm 1, Lib.splitB_hit _ _ _ _ _ hi, List.map_cons, e1, i1, h2]
        refine ⟨rfl, ?_⟩
        rw [List.length_cons, ← i2]
end Go.Proofs.YticpeombillmeaaGreatDoor
