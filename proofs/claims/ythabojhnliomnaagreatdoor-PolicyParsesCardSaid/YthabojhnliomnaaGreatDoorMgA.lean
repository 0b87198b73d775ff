/-
  Joined (wip/merge.py): PrsA, PrsB, PrsC, PrsD, PrsE, PrsF.
-/
import Derived.Test.YthabojhnliomnaaGreatDoorPolT
import Derived.Test.YthabojhnliomnaaGreatDoorTxtD
import Derived.Laws.IdiomStrings
import Derived.Test.YthabojhnliomnaaGreatDoorPolG

namespace Go.Proofs.YthabojhnliomnaaGreatDoor
open Go.RowKit
set_option linter.unusedVariables false

/-- The pieces between the bytes c: at least one. -/
def spl (c : UInt8) : List UInt8 → List (List UInt8)
  | [] => [[]]
  | x :: r => if x = c then [] :: spl c r else match spl c r with
    | h :: t => (x :: h) :: t
    | [] => [[x]]
theorem spl_ne (c : UInt8) : ∀ l, spl c l ≠ []
  | [] => by simp [spl]
  | x :: r => by
    unfold spl
    split
    · simp
    · split <;> simp
theorem spl_free {c : UInt8} : ∀ {l : List UInt8}, c ∉ l → spl c l = [l]
  | [], _ => rfl
  | x :: r, h => by
    have h1 : x ≠ c := fun e => h (by rw [e]; simp)
    have h2 : c ∉ r := fun e => h (by simp [e])
    unfold spl
    rw [if_neg h1, spl_free h2]
theorem spl_mid {c : UInt8} : ∀ {a t : List UInt8}, c ∉ a → spl c (a ++ c :: t) = a :: spl c t
  | [], t, _ => by simp [spl]
  | x :: r, t, h => by
    have h1 : x ≠ c := fun e => h (by rw [e]; simp)
    have h2 : c ∉ r := fun e => h (by simp [e])
    rw [List.cons_append, spl, if_neg h1, spl_mid h2]
theorem spl_cases (c : UInt8) (l : List UInt8) : (c ∉ l ∧ spl c l = [l]) ∨ ∃ a t, l = a ++ c :: t ∧ c ∉ a ∧ spl c l = a :: spl c t := by
  by_cases h : c ∈ l
  · obtain ⟨a, t, rfl, ha⟩ := List.eq_append_cons_of_mem h
    exact Or.inr ⟨a, t, rfl, ha, spl_mid ha⟩
  · exact Or.inl ⟨h, spl_free h⟩
/-- The pieces put together again. -/
def glue (c : UInt8) : List (List UInt8) → List UInt8
  | [] => []
  | [x] => x
  | x :: y :: r => x ++ c :: glue c (y :: r)
theorem glue_spl (c : UInt8) : ∀ l, glue c (spl c l) = l
  | [] => rfl
  | x :: r => by
    have ih := glue_spl c r
    unfold spl
    split
    · rename_i e
      subst e
      cases hs : spl x r with
      | nil => exact absurd hs (spl_ne _ _)
      | cons y t => rw [hs] at ih; simp [glue, ih]
    · cases hs : spl c r with
      | nil => exact absurd hs (spl_ne _ _)
      | cons y t =>
        rw [hs] at ih
        cases t with
        | nil => simp [glue] at ih ⊢; exact ih
        | cons z t => simp [glue] at ih ⊢; exact ih
theorem spl_glue {c : UInt8} : ∀ {ls : List (List UInt8)}, ls ≠ [] → (∀ x ∈ ls, c ∉ x) → spl c (glue c ls) = ls
  | [], h, _ => absurd rfl h
  | [x], _, h => spl_free (h x (by simp))
  | x :: y :: r, _, h => by
    rw [glue, spl_mid (h x (by simp)), spl_glue (by simp) (fun z hz => h z (by simp [hz]))]
theorem spl_mem {c : UInt8} : ∀ {l x : List UInt8}, x ∈ spl c l → c ∉ x
  | [], x, h => by simp [spl] at h; subst h; simp
  | y :: r, x, h => by
    unfold spl at h
    split at h
    · rcases List.mem_cons.1 h with rfl | h
      · simp
      · exact spl_mem h
    · rename_i hne
      cases hs : spl c r with
      | nil => exact absurd hs (spl_ne _ _)
      | cons z t =>
        rw [hs] at h
        rcases List.mem_cons.1 h with rfl | h
        · have := spl_mem (c := c) (l := r) (x := z) (by rw [hs]; simp)
          intro hm
          rcases List.mem_cons.1 hm with e | hm
          · exact hne e.symm
          · exact this hm
        · exact spl_mem (l := r) (by rw [hs]; simp [h])
theorem spl_len (c : UInt8) (l : List UInt8) : (spl c l).length ≤ l.length + 1 := by
  induction l with
  | nil => simp [spl]
  | cons x r ih =>
    unfold spl
    split
    · simp; omega
    · cases hs : spl c r with
      | nil => simp
      | cons z t => rw [hs] at ih; simp at ih ⊢; omega
theorem spl_piece {c : UInt8} {l x : List UInt8} (h : x ∈ spl c l) : x.length ≤ l.length := by
  induction l generalizing x with
  | nil => simp [spl] at h; subst h; simp
  | cons y r ih =>
    unfold spl at h
    split at h
    · rcases List.mem_cons.1 h with rfl | h
      · simp
      · have := ih h; simp; omega
    · cases hs : spl c r with
      | nil => exact absurd hs (spl_ne _ _)
      | cons z t =>
        rw [hs] at h
        rcases List.mem_cons.1 h with rfl | h
        · have := ih (x := z) (by rw [hs]; simp)
          simp; omega
        · have := ih (x := x) (by rw [hs]; simp [h])
          simp; omega
theorem index_free {c : UInt8} : ∀ {l : List UInt8}, c ∉ l → Lib.index l [c] = -1
  | [], _ => rfl
  | x :: r, h => by
    have h1 : ¬ c = x := fun e => h (by rw [e]; simp)
    have h2 : c ∉ r := fun e => h (by simp [e])
    unfold Lib.index
    rw [index_free h2]
    simp [h1]
theorem index_mid {c : UInt8} : ∀ {a t : List UInt8}, c ∉ a → Lib.index (a ++ c :: t) [c] = a.length
  | [], t, _ => by simp [Lib.index]
  | x :: r, t, h => by
    have h1 : ¬ c = x := fun e => h (by rw [e]; simp)
    have h2 : c ∉ r := fun e => h (by simp [e])
    rw [List.cons_append]
    unfold Lib.index
    rw [index_mid h2]
    have h3 : ((r.length : Int) == -1) = false := by rw [beq_eq_false_iff_ne]; omega
    simp [h1, h3]
theorem cut_free {c : UInt8} {l : List UInt8} (h : c ∉ l) : Lib.cut l [c] = (l, [], false) := by
  unfold Lib.cut
  rw [index_free h]
  simp
theorem cut_mid {c : UInt8} {a t : List UInt8} (h : c ∉ a) : Lib.cut (a ++ c :: t) [c] = (a, t, true) := by
  unfold Lib.cut
  rw [index_mid h, if_pos (by omega), Int.toNat_natCast]
  simp
/-- Cut, in the words of the pieces. -/
theorem cut_last {c : UInt8} {l x : List UInt8} (h : spl c l = [x]) : x = l ∧ Lib.cut l [c] = (l, [], false) := by
  rcases spl_cases c l with ⟨h1, h2⟩ | ⟨a, t, rfl, ha, h2⟩
  · rw [h2] at h
    have : l = x := by simpa using h
    exact ⟨this.symm, cut_free h1⟩
  · rw [h2] at h
    have : spl c t = [] := by simpa using (List.cons.inj h).2
    exact absurd this (spl_ne _ _)
theorem cut_first {c : UInt8} {l x y : List UInt8} {r : List (List UInt8)} (h : spl c l = x :: y :: r) : ∃ t, Lib.cut l [c] = (x, t, true) ∧ spl c t = y :: r ∧ l = x ++ c :: t := by
  rcases spl_cases c l with ⟨h1, h2⟩ | ⟨a, t, rfl, ha, h2⟩
  · rw [h2] at h; simp at h
  · rw [h2] at h
    obtain ⟨rfl, h3⟩ := List.cons.inj h
    exact ⟨t, cut_mid ha, h3, rfl⟩
theorem contains_spl {c : UInt8} {l : List UInt8} : Lib.indexByte l c = -1 ↔ c ∉ l := by
  induction l with
  | nil => simp [Lib.indexByte]
  | cons x r ih =>
    unfold Lib.indexByte
    have hge := Lib.indexByte_ge r c
    by_cases e : (x == c) = true
    · rw [if_pos e]
      have : x = c := by simpa using e
      subst this
      simp
    · rw [if_neg e]
      have e' : c ≠ x := fun h => e (by rw [h]; simp)
      by_cases h : (Lib.indexByte r c == -1) = true
      · rw [if_pos h]
        have h2 := ih.1 (by simpa using h)
        simp [e', h2]
      · rw [if_neg h]
        have h1 : ¬ Lib.indexByte r c = -1 := by simpa using h
        have h2 : c ∈ r := Classical.byContradiction fun hn => h1 (ih.2 hn)
        constructor
        · intro h3; omega
        · intro h3; exact absurd (List.mem_cons_of_mem _ h2) h3
theorem splitB_spl (c : UInt8) : ∀ (n : Nat) (s : ByteArray), s.size ≤ n → (Lib.splitB ⟨#[c]⟩ 0 (Lib.countB s ⟨#[c]⟩) s).map toL = spl c (toL s) ∧ Lib.countB s ⟨#[c]⟩ + 1 = (spl c (toL s)).length
  | n, s, hn => by
    rcases spl_cases c (toL s) with ⟨h1, h2⟩ | ⟨a, t, h, ha, h2⟩
    · have hi : Lib.indexB s ⟨#[c]⟩ = -1 := index_free h1
      rw [Lib.countB_miss s _ hi, Lib.splitB_zero, h2]
      exact ⟨rfl, rfl⟩
    · have hi : Lib.indexB s ⟨#[c]⟩ = (a.length : Nat) := by
        show Lib.index (toL s) [c] = _
        rw [h]
        exact index_mid ha
      have hsz : s.size = a.length + 1 + t.length := by rw [← toL_len, h]; simp; omega
      have e1 : toL (s.extract 0 (a.length + 0)) = a := by
        show (s.extract 0 (a.length + 0)).data.toList = a
        rw [Lib.extract_from_zero]
        show (toL s).take _ = a
        rw [h]
        simp
      have e2 : toL (s.extract (a.length + (⟨#[c]⟩ : ByteArray).size) s.size) = t := by
        show (s.extract (a.length + 1) s.size).data.toList = t
        rw [Lib.extract_to_end]
        show (toL s).drop _ = t
        rw [h]
        simp
      have hlt : (s.extract (a.length + (⟨#[c]⟩ : ByteArray).size) s.size).size = t.length := by rw [← toL_len, e2]
      match n, hn with
      | 0, hn => omega
      | n + 1, hn =>
        obtain ⟨i1, i2⟩ := splitB_spl c n (s.extract (a.length + (⟨#[c]⟩ : ByteArray).size) s.size) (by rw [hlt]; omega)
        rw [e2] at i1 i2
        rw [Lib.countB_hit s ⟨#[c]⟩ a.length (Nat.le_refl 1) hi, Nat.add_comm 1, Lib.splitB_hit _ _ _ _ _ hi, List.map_cons, e1, i1, h2]
        refine ⟨rfl, ?_⟩
        rw [List.length_cons, ← i2]
end Go.Proofs.YthabojhnliomnaaGreatDoor

namespace Go.Proofs.YthabojhnliomnaaGreatDoor
open Go.RowKit
set_option linter.unusedVariables false

/-- The pieces of a string. -/
def wds (c : UInt8) (s : ByteArray) : List ByteArray := (spl c (toL s)).map bsOf
theorem toL_bsOf (l : List UInt8) : toL (bsOf l) = l := rfl
theorem bsOf_size (l : List UInt8) : (bsOf l).size = l.length := by rw [← toL_len]; rfl
theorem wds_pos (c : UInt8) (s : ByteArray) : 0 < (wds c s).length := by
  unfold wds
  rw [List.length_map]
  exact List.length_pos_iff.2 (spl_ne _ _)
theorem wds_len (c : UInt8) (s : ByteArray) : (wds c s).length ≤ s.size + 1 := by
  unfold wds
  rw [List.length_map, ← toL_len]
  exact spl_len _ _
theorem wds_size {c : UInt8} {s x : ByteArray} (h : x ∈ wds c s) : x.size ≤ s.size := by
  obtain ⟨l, hl, rfl⟩ := List.mem_map.1 h
  rw [bsOf_size, ← toL_len]
  exact spl_piece hl
theorem wds_toL (c : UInt8) (s : ByteArray) : (wds c s).map toL = spl c (toL s) := by
  unfold wds
  rw [List.map_map]
  exact List.map_id _
/-- What Split hands back. -/
structure SplR (l : List ByteArray) (w w' : World) (e : Ending) : Prop where
  ret : e = .returned (.slice (some ⟨w.heap.size, 0, none⟩) l.length l.length)
  box : Box w' w.heap.size (l.map Value.string) 9
  sl : Sl Lay.str w' (some ⟨w.heap.size, 0, none⟩) l
  bel : Below w.heap.size w w'
theorem slBox {w : World} {b : Nat} {l : List ByteArray} (h : Box w b (l.map Value.string) 9) : Sl Lay.str w (some ⟨b, 0, none⟩) l := fun i x hx => by
  refine ⟨b, 0, [.string x], rfl, h.lt, rfl, fun j v hj => ?_⟩
  have hj0 : j = 0 := by
    have := (List.getElem?_eq_some_iff.1 hj).1
    simp at this
    exact this
  subst hj0
  simp at hj
  subst hj
  rw [show (0 : Nat) + i * Lay.str.size + 0 = i by show 0 + i * 1 + 0 = i; omega]
  exact h.cell i (by rw [List.getElem?_map, hx]; rfl)
theorem split_any (c : UInt8) (s : ByteArray) (w : World) (hg : Glob w) (hs : s.size ≤ 70000) : Calls Tryz.prog 87 #[.string s, .string ⟨#[c]⟩] w fun e w' => SplR (wds c s) w w' e := by
  obtain ⟨m, hm⟩ := hg.ml
  refine (Tryz.strings_Split s ⟨#[c]⟩ m w (by omega) hm (Nat.le_refl 1)).mono ?_
  rintro e w' ⟨rfl, rfl⟩
  obtain ⟨h1, h2⟩ := splitB_spl c s.size s (Nat.le_refl _)
  have h3 : Lib.splitB ⟨#[c]⟩ 0 (Lib.countB s ⟨#[c]⟩) s = wds c s := by
    unfold wds
    rw [← h1, List.map_map]
    have : (bsOf ∘ toL) = id := by funext x; exact mk_toL x
    rw [this, List.map_id]
  have h4 : Lib.countB s ⟨#[c]⟩ + 1 = (wds c s).length := by unfold wds; rw [List.length_map]; exact h2
  rw [h3, h4]
  have hb := Box.new w ((wds c s).map Value.string) 9
  exact ⟨rfl, hb, slBox hb, (by repeat (first | assumption | exact Below.refl _ _ | apply bw_alloc | apply bw_drew | apply bw_drewN | apply bw_later | apply bw_step))⟩
theorem cut_no {c : UInt8} {s : ByteArray} {x : List UInt8} (w : World) (hg : Glob w) (hs : s.size ≤ 70000) (h : spl c (toL s) = [x]) : Calls Tryz.prog 42 #[.string s, .string ⟨#[c]⟩] w fun e w' => e = .returned (.tuple #[.string s, .string ⟨#[]⟩, .bool false]) ∧ Below w.heap.size w w' := by
  obtain ⟨m, hm⟩ := hg.ml
  refine (Tryz.strings_Cut s ⟨#[c]⟩ m w (by omega) hm).mono ?_
  rintro e w' ⟨rfl, n, rfl⟩
  obtain ⟨_, h2⟩ := cut_last h
  have h3 : Lib.cut s.data.toList (⟨#[c]⟩ : ByteArray).data.toList = (toL s, [], false) := h2
  rw [h3]
  exact ⟨by rw [mk_toL], below_drewN (Below.refl _ _) n⟩
theorem cut_yes {c : UInt8} {s : ByteArray} {x t : List UInt8} (w : World) (hg : Glob w) (hs : s.size ≤ 70000) (h : Lib.cut (toL s) [c] = (x, t, true)) : Calls Tryz.prog 42 #[.string s, .string ⟨#[c]⟩] w fun e w' => e = .returned (.tuple #[.string (bsOf x), .string (bsOf t), .bool true]) ∧ Below w.heap.size w w' := by
  obtain ⟨m, hm⟩ := hg.ml
  refine (Tryz.strings_Cut s ⟨#[c]⟩ m w (by omega) hm).mono ?_
  rintro e w' ⟨rfl, n, rfl⟩
  have h3 : Lib.cut s.data.toList (⟨#[c]⟩ : ByteArray).data.toList = (x, t, true) := h
  rw [h3]
  exact ⟨rfl, below_drewN (Below.refl _ _) n⟩
theorem containsOne (c : UInt8) (s : ByteArray) (w : World) : Calls Tryz.prog 45 #[.string s, .string ⟨#[c]⟩] w fun e w' => e = .returned (.bool (decide (c ∈ toL s))) ∧ w = w' := by
  refine (Tryz.strings_Contains_one s c w).mono ?_
  rintro e w' ⟨rfl, rfl⟩
  refine ⟨?_, rfl⟩
  congr 2
  rw [Bool.eq_iff_iff, decide_eq_true_iff, decide_eq_true_iff]
  have h := contains_spl (c := c) (l := toL s)
  have hge := Lib.indexByte_ge (toL s) c
  constructor
  · intro h1
    exact Classical.byContradiction fun hn => by
      have := h.2 hn
      have h2 : (0 : Int) ≤ Lib.indexByte (toL s) c := h1
      omega
  · intro h1
    show (0 : Int) ≤ Lib.indexByte (toL s) c
    have h3 : Lib.indexByte (toL s) c ≠ -1 := fun e => h.1 e h1
    omega
/-- Is a word of the line empty? -/
def hasE (l : List ByteArray) : Bool := decide (0 ≤ atI l ⟨#[]⟩)
theorem hasE_iff {l : List ByteArray} : hasE l = true ↔ (⟨#[]⟩ : ByteArray) ∈ l := by unfold hasE; rw [decide_eq_true_iff, atI_iff]
theorem containsEmpty {w : World} {b : Nat} (l : List ByteArray) (hl : l.length ≤ 100000) (hs : Sl Lay.str w (some ⟨b, 0, none⟩) l) :
    Calls Tryz.prog 74 #[.slice (some ⟨b, 0, none⟩) l.length l.length, .string ⟨#[]⟩] w fun e w' => e = .returned (.bool (hasE l)) ∧ w = w' := by
  refine (contTake (k := l.length) (c := l.length) ⟨#[]⟩ (Nat.le_refl _) (by omega) hs).mono ?_
  rintro e w' ⟨rfl, rfl⟩
  rw [List.take_length]
  exact ⟨rfl, rfl⟩
end Go.Proofs.YthabojhnliomnaaGreatDoor

namespace Go.Proofs.YthabojhnliomnaaGreatDoor
open Go.RowKit
set_option linter.unusedVariables false

def pArg : List UInt8 := [97, 114, 103]
def pVar : List UInt8 := [118, 97, 114]
def pSite : List UInt8 := [115, 105, 116, 101]
def preR (l : List UInt8) : Int × List UInt8 := if Lib.hasPrefix l pArg then (1, l.drop 3) else if Lib.hasPrefix l pVar then (3, l.drop 3) else if Lib.hasPrefix l pSite then (4, l.drop 4) else (0, [])
def digU (c : UInt8) : Bool := decide (48 ≤ c.toNat) && decide (c.toNat ≤ 57)
def numG : List UInt8 → Int → Int
  | [], n => n
  | c :: r, n => numG r (10 * n + ((c.toNat : Int) - 48))
def badD (d : List UInt8) : Bool := d.isEmpty || decide (9 < d.length) || (decide (1 < d.length) && d.head? == some 48)
def rootP (l : List UInt8) : Int × Int × Bool := if l = wRes then (2, 0, true) else if badD (preR l).2 || !(preR l).2.all digU then (0, 0, false) else ((preR l).1, numG (preR l).2 0, true)
theorem pre_arg {l : List UInt8} (h : Lib.hasPrefix l pArg = true) : Lib.hasPrefix l pVar = false ∧ Lib.hasPrefix l pSite = false := by
  unfold Lib.hasPrefix at *
  obtain ⟨t, rfl⟩ := List.isPrefixOf_iff_prefix.1 h
  exact ⟨by unfold pArg pVar; rfl, by unfold pArg pSite; rfl⟩
theorem pre_var {l : List UInt8} (h : Lib.hasPrefix l pVar = true) : Lib.hasPrefix l pArg = false ∧ Lib.hasPrefix l pSite = false := by
  unfold Lib.hasPrefix at *
  obtain ⟨t, rfl⟩ := List.isPrefixOf_iff_prefix.1 h
  exact ⟨by unfold pArg pVar; rfl, by unfold pVar pSite; rfl⟩
theorem pre_site {l : List UInt8} (h : Lib.hasPrefix l pSite = true) : Lib.hasPrefix l pArg = false ∧ Lib.hasPrefix l pVar = false := by
  unfold Lib.hasPrefix at *
  obtain ⟨t, rfl⟩ := List.isPrefixOf_iff_prefix.1 h
  exact ⟨by unfold pArg pSite; rfl, by unfold pVar pSite; rfl⟩
/-- The four ways of a word. -/
inductive PreW (l : List UInt8) : Prop
  | arg (h1 : Lib.hasPrefix l pArg = true) (h2 : Lib.hasPrefix l pVar = false) (h3 : Lib.hasPrefix l pSite = false) (hp : preR l = (1, l.drop 3))
  | var (h1 : Lib.hasPrefix l pArg = false) (h2 : Lib.hasPrefix l pVar = true) (h3 : Lib.hasPrefix l pSite = false) (hp : preR l = (3, l.drop 3))
  | site (h1 : Lib.hasPrefix l pArg = false) (h2 : Lib.hasPrefix l pVar = false) (h3 : Lib.hasPrefix l pSite = true) (hp : preR l = (4, l.drop 4))
  | none (h1 : Lib.hasPrefix l pArg = false) (h2 : Lib.hasPrefix l pVar = false) (h3 : Lib.hasPrefix l pSite = false) (hp : preR l = (0, []))
theorem preW (l : List UInt8) : PreW l := by
  cases h1 : Lib.hasPrefix l pArg with
  | true => exact .arg h1 (pre_arg h1).1 (pre_arg h1).2 (by unfold preR; rw [if_pos h1])
  | false =>
    cases h2 : Lib.hasPrefix l pVar with
    | true => exact .var h1 h2 (pre_var h2).2 (by unfold preR; rw [if_neg (by rw [h1]; simp), if_pos h2])
    | false =>
      cases h3 : Lib.hasPrefix l pSite with
      | true => exact .site h1 h2 h3 (by unfold preR; rw [if_neg (by rw [h1]; simp), if_neg (by rw [h2]; simp), if_pos h3])
      | false => exact .none h1 h2 h3 (by unfold preR; rw [if_neg (by rw [h1]; simp), if_neg (by rw [h2]; simp), if_neg (by rw [h3]; simp)])
/-- The root and the digits behind the first j names. -/
def preS (l : List UInt8) : Nat → Int × List UInt8
  | 0 => (0, [])
  | 1 => if Lib.hasPrefix l pArg then (1, l.drop 3) else (0, [])
  | 2 => if Lib.hasPrefix l pVar then (3, l.drop 3) else if Lib.hasPrefix l pArg then (1, l.drop 3) else (0, [])
  | _ => if Lib.hasPrefix l pSite then (4, l.drop 4) else if Lib.hasPrefix l pVar then (3, l.drop 3) else if Lib.hasPrefix l pArg then (1, l.drop 3) else (0, [])
theorem preS_all (l : List UInt8) : preS l 3 = preR l := by
  rcases preW l with ⟨h1, h2, h3, hp⟩ | ⟨h1, h2, h3, hp⟩ | ⟨h1, h2, h3, hp⟩ | ⟨h1, h2, h3, hp⟩ <;> rw [hp] <;> simp [preS, h1, h2, h3]
theorem cutPre (s p : ByteArray) (w : World) (b : Bool) (t : List UInt8) (h : Hid (Lib.hasPrefix (toL s) (toL p) = b)) (ht : Hid (t = if b then (toL s).drop p.size else toL s)) :
    Calls Tryz.prog 212 #[.string s, .string p] w fun e w' => e = .returned (.tuple #[.string (bsOf t), .bool b]) ∧ w = w' := by
  refine (Tryz.strings_CutPrefix s p w).mono ?_
  rintro e w' ⟨rfl, rfl⟩
  refine ⟨?_, rfl⟩
  have h1 : Lib.hasPrefix s.data.toList p.data.toList = b := h.out
  have h2 : Lib.trimPrefix s.data.toList p.data.toList = t := by
    unfold Lib.trimPrefix
    rw [h1, ht.out]
    rw [show p.data.toList.length = p.size from toL_len p]
    rfl
  rw [h1, h2]
  rfl
theorem ByteArray.toList_eq' (D : ByteArray) : D.toList = toL D := ByteArray.toList_eq D
theorem head_toL {D : ByteArray} (h : 0 < D.size) : (toL D).head? = some D[0] := by
  unfold toL
  rw [List.head?_eq_getElem?, List.getElem?_eq_getElem (by rw [Array.length_toList]; exact h)]
  rfl
theorem toL_at {D : ByteArray} {m : Nat} (h : m < D.size) : (toL D).take (m + 1) = (toL D).take m ++ [D[m]] := by
  rw [List.take_succ_eq_append_getElem (by rw [toL_len]; exact h)]
  rfl
theorem mem_toL {D : ByteArray} {m : Nat} (h : m < D.size) : D[m] ∈ toL D := by
  have : (toL D)[m]'(by rw [toL_len]; exact h) = D[m] := rfl
  rw [← this]
  exact List.getElem_mem _
theorem numG_snoc (c : UInt8) : ∀ (l : List UInt8) (n : Int), numG (l ++ [c]) n = 10 * numG l n + ((c.toNat : Int) - 48)
  | [], n => rfl
  | x :: r, n => by rw [List.cons_append, numG, numG_snoc c r]; rfl
/-- '[]byte(s)'. -/
theorem bytesOf (D : ByteArray) (w : World) : ∃ (W2 : World) (cp : Nat), (convert 9 66 (.string D)).run Tryz.prog w = .ok (.slice (some ⟨w.heap.size, 0, none⟩) D.size cp) W2 ∧ (∀ j (h : j < D.size), W2.cell? ⟨w.heap.size, j, none⟩ = some (.int .u8 D[j].toNat)) ∧ Below w.heap.size w W2 ∧ w.heap.size < W2.heap.size := by
  refine ⟨_, _, run_bytes_of_string w 9 66 5 D Tryz.underlying9 Tryz.underlying66 Tryz.underlying5, fun j h => ?_, bw_alloc (bw_drew (Below.refl _ _)), ?_⟩
  · have hh : (w.drew.alloc (.cells (bytesRow D (grownCap w D.size 0 5)) 5 ((bytesRow D (grownCap w D.size 0 5)).size, (bytesRow D (grownCap w D.size 0 5)).size + 1))).heap[w.heap.size]? = some (.cells (bytesRow D (grownCap w D.size 0 5)) 5 ((bytesRow D (grownCap w D.size 0 5)).size, (bytesRow D (grownCap w D.size 0 5)).size + 1)) := by
      show (w.heap.push _)[w.heap.size]? = _
      simp
    unfold World.cell?
    rw [hh]
    have hj : j < D.data.size := h
    simp only [bytesRow]
    rw [if_neg (by simp), Array.getElem?_append_left (by simpa using hj)]
    simp
    exact ⟨D.data[j], Array.getElem?_eq_getElem hj, rfl⟩
  · simp
theorem nmIdx0 (w : World) : (Instr.index 239 (.agg #[.string ⟨#[97, 114, 103]⟩, .string ⟨#[118, 97, 114]⟩, .string ⟨#[115, 105, 116, 101]⟩]) (.int .i64 0)).run Tryz.prog w = .ok (.string ⟨#[97, 114, 103]⟩) w := by kernel_rfl
theorem nmIdx1 (w : World) : (Instr.index 239 (.agg #[.string ⟨#[97, 114, 103]⟩, .string ⟨#[118, 97, 114]⟩, .string ⟨#[115, 105, 116, 101]⟩]) (.int .i64 1)).run Tryz.prog w = .ok (.string ⟨#[118, 97, 114]⟩) w := by kernel_rfl
theorem nmIdx2 (w : World) : (Instr.index 239 (.agg #[.string ⟨#[97, 114, 103]⟩, .string ⟨#[118, 97, 114]⟩, .string ⟨#[115, 105, 116, 101]⟩]) (.int .i64 2)).run Tryz.prog w = .ok (.string ⟨#[115, 105, 116, 101]⟩) w := by kernel_rfl
set_option maxRecDepth 100000 in
set_option maxHeartbeats 4000000 in
theorem parseRoot_any (s : ByteArray) (w : World) (hs : s.size ≤ 70000) :
    Calls Tryz.prog 182 #[.string s] w fun e w' => e = .returned (.tuple #[.int .i64 (rootP (toL s)).1, .int .i64 (rootP (toL s)).2.1, .bool (rootP (toL s)).2.2]) ∧ Below w.heap.size w w' := by
  obtain ⟨r, HR⟩ : ∃ r, Hid (r = rootP (toL s)) := ⟨_, Lib.hid rfl⟩
  rw [← HR.out]
  have HRET : Hid (∀ (a b : Int) (c : Bool), r = (a, b, c) → (Ending.returned (.tuple #[.int .i64 a, .int .i64 b, .bool c]) = Ending.returned (.tuple #[.int .i64 r.1, .int .i64 r.2.1, .bool r.2.2]))) := fun a b c h => by rw [h]
  go_enter Tryz.func182, Tryz.ntmps182
  by_cases hres : toL s = wRes
  · have HB : Hid (r = (2, 0, true)) := by show _ = _; rw [HR.out, rootP, if_pos hres]
    obtain rfl : s = ⟨#[114, 101, 115, 117, 108, 116]⟩ := toL_inj hres
    clear hres HR
    go_wp2_with fail
    go_ret3
    exact ⟨HRET.out _ _ _ HB.out, Below.refl _ _⟩
  have tres : (s.toList == [114, 101, 115, 117, 108, 116]) = false := by
    rw [beq_eq_false_iff_ne]
    intro h
    rw [ByteArray.toList_eq] at h
    exact hres h
  have HR2 : Hid (r = if badD (preR (toL s)).2 || !(preR (toL s)).2.all digU then (0, 0, false) else ((preR (toL s)).1, numG (preR (toL s)).2 0, true)) := by show _ = _; rw [HR.out, rootP, if_neg hres]
  clear HR hres
  go_wp2_with fail
  go_loop [2, 5, 15] (fun v2 v5 i => ∃ j : Nat, j ≤ 3 ∧ i = .int .i64 j ∧ ∃ (k : Int) (D : ByteArray), v2 = .int .i64 k ∧ v5 = .string D ∧ Hid (k = (preS (toL s) j).1) ∧ Hid (toL D = (preS (toL s) j).2)) (fun _ _ i => 3 - (intOf i).toNat)
  case atStart => exact ⟨0, by omega, rfl, 0, ⟨#[]⟩, rfl, rfl, rfl, rfl⟩
  case round =>
    obtain ⟨j, hj, rfl, k, D, rfl, rfl, HK, HD⟩ := hrel
    match j, hj with
    | 0, _ =>
      have hix := nmIdx0 w
      cases hp : Lib.hasPrefix (toL s) pArg with
      | true =>
        have HN : Hid (preS (toL s) 1 = (1, (toL s).drop 3)) := if_pos hp
        have HC : Hid (∀ W, Calls Tryz.prog 212 #[.string s, .string ⟨#[97, 114, 103]⟩] W fun e w' => e = .returned (.tuple #[.string (bsOf ((toL s).drop 3)), .bool true]) ∧ W = w') := fun W => cutPre s ⟨#[97, 114, 103]⟩ W true _ hp rfl
        clear hp
        go_wp2_with fail
        refine (HC.out _).mono ?_
        rintro e w2 ⟨rfl, rfl⟩
        generalize hDD : bsOf ((toL s).drop 3) = DD
        go_wp2_with fail
        go_round
        case rel => exact ⟨1, by omega, by go_num, 1, DD, rfl, rfl, by show _ = _; rw [HN.out], by show _ = _; rw [HN.out, ← hDD]; rfl⟩
        case measure => simp [intOf]
      | false =>
        have HN : Hid (preS (toL s) 1 = preS (toL s) 0) := if_neg (by rw [hp]; simp)
        have HC : Hid (∀ W, Calls Tryz.prog 212 #[.string s, .string ⟨#[97, 114, 103]⟩] W fun e w' => e = .returned (.tuple #[.string (bsOf (toL s)), .bool false]) ∧ W = w') := fun W => cutPre s ⟨#[97, 114, 103]⟩ W false _ hp rfl
        clear hp
        go_wp2_with fail
        refine (HC.out _).mono ?_
        rintro e w2 ⟨rfl, rfl⟩
        generalize hDD : bsOf (toL s) = DD
        clear hDD
        go_wp2_with fail
        go_round
        case rel => exact ⟨1, by omega, by go_num, k, D, rfl, rfl, by show _ = _; rw [HN.out]; exact HK.out, by show _ = _; rw [HN.out]; exact HD.out⟩
        case measure => simp [intOf]
    | 1, _ =>
      have hix := nmIdx1 w
      cases hp : Lib.hasPrefix (toL s) pVar with
      | true =>
        have HN : Hid (preS (toL s) 2 = (3, (toL s).drop 3)) := if_pos hp
        have HC : Hid (∀ W, Calls Tryz.prog 212 #[.string s, .string ⟨#[118, 97, 114]⟩] W fun e w' => e = .returned (.tuple #[.string (bsOf ((toL s).drop 3)), .bool true]) ∧ W = w') := fun W => cutPre s ⟨#[118, 97, 114]⟩ W true _ hp rfl
        clear hp
        go_wp2_with fail
        refine (HC.out _).mono ?_
        rintro e w2 ⟨rfl, rfl⟩
        generalize hDD : bsOf ((toL s).drop 3) = DD
        go_wp2_with fail
        go_round
        case rel => exact ⟨2, by omega, by go_num, 3, DD, rfl, rfl, by show _ = _; rw [HN.out], by show _ = _; rw [HN.out, ← hDD]; rfl⟩
        case measure => simp [intOf]
      | false =>
        have HN : Hid (preS (toL s) 2 = preS (toL s) 1) := if_neg (by rw [hp]; simp)
        have HC : Hid (∀ W, Calls Tryz.prog 212 #[.string s, .string ⟨#[118, 97, 114]⟩] W fun e w' => e = .returned (.tuple #[.string (bsOf (toL s)), .bool false]) ∧ W = w') := fun W => cutPre s ⟨#[118, 97, 114]⟩ W false _ hp rfl
        clear hp
        go_wp2_with fail
        refine (HC.out _).mono ?_
        rintro e w2 ⟨rfl, rfl⟩
        generalize hDD : bsOf (toL s) = DD
        clear hDD
        go_wp2_with fail
        go_round
        case rel => exact ⟨2, by omega, by go_num, k, D, rfl, rfl, by show _ = _; rw [HN.out]; exact HK.out, by show _ = _; rw [HN.out]; exact HD.out⟩
        case measure => simp [intOf]
    | 2, _ =>
      have hix := nmIdx2 w
      cases hp : Lib.hasPrefix (toL s) pSite with
      | true =>
        have HN : Hid (preS (toL s) 3 = (4, (toL s).drop 4)) := if_pos hp
        have HC : Hid (∀ W, Calls Tryz.prog 212 #[.string s, .string ⟨#[115, 105, 116, 101]⟩] W fun e w' => e = .returned (.tuple #[.string (bsOf ((toL s).drop 4)), .bool true]) ∧ W = w') := fun W => cutPre s ⟨#[115, 105, 116, 101]⟩ W true _ hp rfl
        clear hp
        go_wp2_with fail
        refine (HC.out _).mono ?_
        rintro e w2 ⟨rfl, rfl⟩
        generalize hDD : bsOf ((toL s).drop 4) = DD
        go_wp2_with fail
        go_round
        case rel => exact ⟨3, by omega, by go_num, 4, DD, rfl, rfl, by show _ = _; rw [HN.out], by show _ = _; rw [HN.out, ← hDD]; rfl⟩
        case measure => simp [intOf]
      | false =>
        have HN : Hid (preS (toL s) 3 = preS (toL s) 2) := if_neg (by rw [hp]; simp)
        have HC : Hid (∀ W, Calls Tryz.prog 212 #[.string s, .string ⟨#[115, 105, 116, 101]⟩] W fun e w' => e = .returned (.tuple #[.string (bsOf (toL s)), .bool false]) ∧ W = w') := fun W => cutPre s ⟨#[115, 105, 116, 101]⟩ W false _ hp rfl
        clear hp
        go_wp2_with fail
        refine (HC.out _).mono ?_
        rintro e w2 ⟨rfl, rfl⟩
        generalize hDD : bsOf (toL s) = DD
        clear hDD
        go_wp2_with fail
        go_round
        case rel => exact ⟨3, by omega, by go_num, k, D, rfl, rfl, by show _ = _; rw [HN.out]; exact HK.out, by show _ = _; rw [HN.out]; exact HD.out⟩
        case measure => simp [intOf]
    | 3, _ =>
      rw [preS_all] at HK HD
      have HR3 : Hid (r = if badD (toL D) || !(toL D).all digU then (0, 0, false) else (k, numG (toL D) 0, true)) := by show _ = _; rw [HR2.out, HD.out, HK.out]
      clear HR2 HK HD
      have HFAIL : Hid (badD (toL D) || !(toL D).all digU → r = (0, 0, false)) := fun h => by rw [HR3.out, if_pos h]
      have hDl := toL_len D
      have HBD : Hid (badD (toL D) = ((toL D).isEmpty || decide (9 < D.size) || (decide (1 < D.size) && (toL D).head? == some 48))) := by show _ = _; unfold badD; rw [hDl]
      clear hDl
      cases he : D.toList.isEmpty with
      | true =>
        have HB : Hid (r = (0, 0, false)) := HFAIL.out (by rw [HBD.out, ← ByteArray.toList_eq' D, he]; simp)
        go_wp2_with fail
        go_ret3
        exact ⟨HRET.out _ _ _ HB.out, Below.refl _ _⟩
      | false =>
      have hD0 : 0 < D.size := by
        rw [ByteArray.toList_eq' D] at he
        rw [← toL_len]
        cases h : toL D with
        | nil => rw [h] at he; simp at he
        | cons x r => simp
      have he2 : D.toList ≠ [] := fun h => by rw [h] at he; simp at he
      by_cases h9 : 9 < D.size
      · have HB : Hid (r = (0, 0, false)) := HFAIL.out (by rw [HBD.out, decide_eq_true h9]; simp)
        go_wp2_with fail
        go_ret3
        exact ⟨HRET.out _ _ _ HB.out, Below.refl _ _⟩
      by_cases hz : 1 < D.size ∧ D[0].toNat = 48
      · have HB : Hid (r = (0, 0, false)) := HFAIL.out (by
          have h1 : (toL D).head? = some 48 := by
            have h2 : (toL D).head? = some D[0] := head_toL hD0
            rw [h2]
            congr 1
            exact UInt8.toNat_inj.1 hz.2
          rw [HBD.out, decide_eq_true hz.1, h1]
          simp)
        have h1 := hz.1
        have tz : ((D[0].toNat : Int) == 48) = true := by rw [hz.2]; rfl
        clear hz
        go_wp2_with fail
        go_ret3
        exact ⟨HRET.out _ _ _ HB.out, Below.refl _ _⟩
      have HOK : Hid (badD (toL D) = false) := by
        show _ = _
        rw [HBD.out, ← ByteArray.toList_eq' D, he, decide_eq_false h9]
        by_cases h1 : 1 < D.size
        · have h2 : (toL D).head? = some D[0] := head_toL hD0
          have h3 : D[0] ≠ 48 := fun e => hz ⟨h1, by rw [e]; rfl⟩
          rw [ByteArray.toList_eq' D, h2]
          simp [h3]
        · simp [h1]
      have HR4 : Hid (r = if !(toL D).all digU then (0, 0, false) else (k, numG (toL D) 0, true)) := by show _ = _; rw [HR3.out, HOK.out]; simp
      have HFAIL2 : Hid ((toL D).all digU = false → r = (0, 0, false)) := fun h => by rw [HR4.out, h]; simp
      have HFINE : Hid ((toL D).all digU = true → r = (k, numG (toL D) 0, true)) := fun h => by rw [HR4.out, h]; simp
      clear HFAIL HBD HOK HR3 HR4
      obtain ⟨W2, cp, hcv, hcells, hbW, hlW⟩ := bytesOf D w
      by_cases h1 : 1 < D.size
      · have tz : ((D[0].toNat : Int) == 48) = false := by
          rw [beq_eq_false_iff_ne]
          intro e
          exact hz ⟨h1, by omega⟩
        clear hz
        go_wp2_with fail
        go_loop [2, 3, 52] (fun v2 v3 i => ∃ (m : Nat) (n : Int), v2 = .int .i64 k ∧ m ≤ D.size ∧ i = .int .i64 m ∧ v3 = .int .i64 n ∧ 0 ≤ n ∧ n ≤ 999999999 ∧ Hid (n = numG ((toL D).take m) 0 ∧ n < 10 ^ m ∧ ((toL D).take m).all digU = true)) (fun _ _ i => D.size - (intOf i).toNat)
        case atStart => exact ⟨0, 0, rfl, Nat.zero_le _, rfl, rfl, by omega, by omega, rfl, by decide, rfl⟩
        case round =>
          obtain ⟨m, n, rfl, hm, rfl, rfl, hn0, hn1, HN⟩ := hrel
          by_cases hlt : m < D.size
          · have d0 := hcells m hlt
            have HG := Lib.hid (toL_at hlt)
            by_cases hdg : 48 ≤ D[m].toNat ∧ D[m].toNat ≤ 57
            · have HE : Hid (digU D[m] = true) := by show _ = _; unfold digU; rw [decide_eq_true hdg.1, decide_eq_true hdg.2]; rfl
              obtain ⟨g1, g2⟩ := hdg
              have HX : Hid ((10 * n + ((D[m].toNat : Int) - 48)) = numG ((toL D).take (m + 1)) 0 ∧ (10 * n + ((D[m].toNat : Int) - 48)) < 10 ^ (m + 1) ∧ ((toL D).take (m + 1)).all digU = true) := by
                obtain ⟨a1, a2, a3⟩ := HN.out
                refine ⟨?_, ?_, ?_⟩
                · rw [HG.out, numG_snoc, ← a1]
                · rw [Int.pow_succ]; omega
                · rw [HG.out, List.all_append, a3]; simp [HE.out]
              have HX2 : Hid ((10 * n + ((D[m].toNat : Int) - 48)) ≤ 999999999) := by
                have a2 := HX.out.2.1
                have a4 : (10 : Int) ^ (m + 1) ≤ 10 ^ 9 := by
                  have : (10 : Nat) ^ (m + 1) ≤ 10 ^ 9 := Nat.pow_le_pow_right (by omega) (by omega)
                  exact_mod_cast this
                have a5 : (10 : Int) ^ 9 = 1000000000 := by decide
                show _ ≤ _
                omega
              go_wp2_with fail
              go_round
              case rel => exact ⟨m + 1, _, rfl, by omega, by go_num, rfl, by omega, HX2.out, HX⟩
              case measure => simp [intOf]; omega
            · have HB : Hid (r = (0, 0, false)) := HFAIL2.out (by
                rw [List.all_eq_false]
                refine ⟨D[m], mem_toL hlt, ?_⟩
                unfold digU
                simp
                omega)
              by_cases g1 : 48 ≤ D[m].toNat
              · have g2 : 57 < D[m].toNat := by omega
                clear hdg
                go_wp2_with fail
                go_ret3
                exact ⟨HRET.out _ _ _ HB.out, hbW⟩
              · have g2 : D[m].toNat < 48 := by omega
                clear hdg
                go_wp2_with fail
                go_ret3
                exact ⟨HRET.out _ _ _ HB.out, hbW⟩
          · obtain rfl : m = D.size := by omega
            have HB : Hid (r = (k, n, true)) := by
              obtain ⟨a1, a2, a3⟩ := HN.out
              rw [← toL_len, List.take_length] at a1 a3
              show _ = _
              rw [HFINE.out a3, ← a1]
            go_wp2_with fail
            go_ret3
            exact ⟨HRET.out _ _ _ HB.out, hbW⟩
      · clear hz
        go_wp2_with fail
        go_loop [2, 3, 52] (fun v2 v3 i => ∃ (m : Nat) (n : Int), v2 = .int .i64 k ∧ m ≤ D.size ∧ i = .int .i64 m ∧ v3 = .int .i64 n ∧ 0 ≤ n ∧ n ≤ 999999999 ∧ Hid (n = numG ((toL D).take m) 0 ∧ n < 10 ^ m ∧ ((toL D).take m).all digU = true)) (fun _ _ i => D.size - (intOf i).toNat)
        case atStart => exact ⟨0, 0, rfl, Nat.zero_le _, rfl, rfl, by omega, by omega, rfl, by decide, rfl⟩
        case round =>
          obtain ⟨m, n, rfl, hm, rfl, rfl, hn0, hn1, HN⟩ := hrel
          by_cases hlt : m < D.size
          · have d0 := hcells m hlt
            have HG := Lib.hid (toL_at hlt)
            by_cases hdg : 48 ≤ D[m].toNat ∧ D[m].toNat ≤ 57
            · have HE : Hid (digU D[m] = true) := by show _ = _; unfold digU; rw [decide_eq_true hdg.1, decide_eq_true hdg.2]; rfl
              obtain ⟨g1, g2⟩ := hdg
              have HX : Hid ((10 * n + ((D[m].toNat : Int) - 48)) = numG ((toL D).take (m + 1)) 0 ∧ (10 * n + ((D[m].toNat : Int) - 48)) < 10 ^ (m + 1) ∧ ((toL D).take (m + 1)).all digU = true) := by
                obtain ⟨a1, a2, a3⟩ := HN.out
                refine ⟨?_, ?_, ?_⟩
                · rw [HG.out, numG_snoc, ← a1]
                · rw [Int.pow_succ]; omega
                · rw [HG.out, List.all_append, a3]; simp [HE.out]
              have HX2 : Hid ((10 * n + ((D[m].toNat : Int) - 48)) ≤ 999999999) := by
                have a2 := HX.out.2.1
                have a4 : (10 : Int) ^ (m + 1) ≤ 10 ^ 9 := by
                  have : (10 : Nat) ^ (m + 1) ≤ 10 ^ 9 := Nat.pow_le_pow_right (by omega) (by omega)
                  exact_mod_cast this
                have a5 : (10 : Int) ^ 9 = 1000000000 := by decide
                show _ ≤ _
                omega
              go_wp2_with fail
              go_round
              case rel => exact ⟨m + 1, _, rfl, by omega, by go_num, rfl, by omega, HX2.out, HX⟩
              case measure => simp [intOf]; omega
            · have HB : Hid (r = (0, 0, false)) := HFAIL2.out (by
                rw [List.all_eq_false]
                refine ⟨D[m], mem_toL hlt, ?_⟩
                unfold digU
                simp
                omega)
              by_cases g1 : 48 ≤ D[m].toNat
              · have g2 : 57 < D[m].toNat := by omega
                clear hdg
                go_wp2_with fail
                go_ret3
                exact ⟨HRET.out _ _ _ HB.out, hbW⟩
              · have g2 : D[m].toNat < 48 := by omega
                clear hdg
                go_wp2_with fail
                go_ret3
                exact ⟨HRET.out _ _ _ HB.out, hbW⟩
          · obtain rfl : m = D.size := by omega
            have HB : Hid (r = (k, n, true)) := by
              obtain ⟨a1, a2, a3⟩ := HN.out
              rw [← toL_len, List.take_length] at a1 a3
              show _ = _
              rw [HFINE.out a3, ← a1]
            go_wp2_with fail
            go_ret3
            exact ⟨HRET.out _ _ _ HB.out, hbW⟩
end Go.Proofs.YthabojhnliomnaaGreatDoor

namespace Go.Proofs.YthabojhnliomnaaGreatDoor
open Go.RowKit
set_option linter.unusedVariables false

def zAcp : Acp := ⟨0, 0, [], false⟩
def acpBody (l : List UInt8) : List UInt8 := Lib.trimSuffix l [42]
def acpStar (l : List UInt8) : Bool := Lib.hasSuffix l [42]
def badF (f : ByteArray) : Bool := f.toList.isEmpty || decide (42 ∈ toL f)
def acpWs (l : List UInt8) : List ByteArray := wds 46 (bsOf (acpBody l))
def acpRt (l : List UInt8) : Int × Int × Bool := rootP (toL ((acpWs l).headD ⟨#[]⟩))
def acpOf (l : List UInt8) : Acp := ⟨(acpRt l).1, (acpRt l).2.1, (acpWs l).tail, acpStar l⟩
/-- The path with a text, or an error. -/
def acpP (l : List UInt8) : Acp × Int := if (acpRt l).2.2 = false then (zAcp, 2) else if (acpWs l).tail.any badF then (zAcp, 2) else if acpE (acpOf l) ≠ 0 then (zAcp, acpE (acpOf l)) else (acpOf l, 0)
def RetAcp (base : Nat) (r : Acp × Int) (w' : World) (e : Ending) : Prop := ∃ A n c, e = .returned (.tuple #[.agg #[.int .i64 r.1.root, .int .i64 r.1.n, .slice A n c, .bool r.1.star], .int .i64 r.2]) ∧ Own cellsStr 1 base 9 w' (.slice A n c) r.1.fields
theorem retAcp_bad {base : Nat} {w' : World} {e : Int} : RetAcp base (zAcp, e) w' (.returned (.tuple #[.agg #[.int .i64 0, .int .i64 0, .slice none 0 0, .bool false], .int .i64 e])) := ⟨none, 0, 0, rfl, Own.nil⟩
theorem cutSuf (s : ByteArray) (w : World) (hs : s.size ≤ 70000) : Calls Tryz.prog 181 #[.string s, .string ⟨#[42]⟩] w fun e w' => e = .returned (.tuple #[.string (bsOf (acpBody (toL s))), .bool (acpStar (toL s))]) ∧ w = w' :=
  (Tryz.strings_CutSuffix s ⟨#[42]⟩ w (by omega)).mono fun e w' ⟨h1, h2⟩ => ⟨h1, h2.symm⟩
theorem acpBody_len (l : List UInt8) : (acpBody l).length ≤ l.length := by
  unfold acpBody Lib.trimSuffix
  split
  · rw [List.length_take]; omega
  · exact Nat.le_refl _
/-- While the fields are read. -/
structure InA (w : World) (b bw : Nat) (ws : List ByteArray) (base : Nat) (rt n : Int) (st : Bool) (fs : List ByteArray) (wr : World) : Prop where
  br : Box wr b [.int .i64 0, .int .i64 0, .slice none 0 0, .bool false] 49
  bp : ∃ A m c, Box wr (b + 1) [.int .i64 rt, .int .i64 n, .slice A m c, .bool st] 49 ∧ Own cellsStr 1 base 9 wr (.slice A m c) fs
  bw : Box wr bw (ws.map Value.string) 9
  bel : Below w.heap.size w wr
theorem Own.ne_lt {α : Type} {cells : α → List Value} {size base : Nat} {e : TypeId} {w : World} {v : Value} {l : List α} (h : Own cells size base e w v l) {b : Nat} (hb : b < base) : some b ≠ v.ownBlock := fun e => by
  have := (World.ownsRow.lt h b e.symm).1
  omega
/-- One field more. -/
theorem InA.push {w wr : World} {b bw base : Nat} {ws fs : List ByteArray} {rt n : Int} {st : Bool} (h : InA w b bw ws base rt n st fs wr) (hb : w.heap.size ≤ b) (h1 : b + 1 < base) (h2 : bw < base) (h3 : base ≤ wr.heap.size) (h4 : bw ≠ b + 1) (hl : fs.length ≤ 100000) (x : ByteArray) :
    ∃ A m c, Box wr (b + 1) [.int .i64 rt, .int .i64 n, .slice A m c, .bool st] 49 ∧ ∃ v' w', (Builtin.append_ #[38, 38] 38 #[.slice A m c, .slice (some ⟨wr.heap.size, 0, none⟩) 1 1]).run Tryz.prog (wr.alloc (.cells #[.string x] 9)) = .ok v' w' ∧
      Box w' (b + 1) [.int .i64 rt, .int .i64 n, .slice A m c, .bool st] 49 ∧ (∃ B q d, v' = .slice B q d) ∧ InA w b bw ws base rt n st (fs ++ [x]) (w'.setCell ⟨b + 1, 2, none⟩ v') ∧ base ≤ (w'.setCell ⟨b + 1, 2, none⟩ v').heap.size := by
  obtain ⟨A, m, c, hbp, hown⟩ := h.bp
  have hb1 : Below wr.heap.size wr (wr.alloc (.cells #[.string x] 9)) := (by repeat (first | assumption | exact Below.refl _ _ | apply bw_alloc | apply bw_drew | apply bw_drewN | apply bw_later | apply bw_step))
  have hz1 : wr.heap.size ≤ (wr.alloc (.cells #[.string x] 9)).heap.size := by simp
  obtain ⟨v', w', hrun, ho', hb', hg', hz'⟩ := run_push strsTy cellsStr_ok 38 (hown.mono hb1) x wr.heap.size 1 (cells_one_new _ _ _) (by unfold maxLen; omega) (by omega) (by omega)
  have hbp1 := (hbp.mono hb1).grown hg' ((hown.mono hb1).ne_lt h1)
  have hbr1 := (h.br.mono hb1).grown hg' ((hown.mono hb1).ne_lt (by omega))
  have hbw1 := (h.bw.mono hb1).grown hg' ((hown.mono hb1).ne_lt h2)
  have hbel1 : Below w.heap.size w w' := (below_step h.bel hb1).grown hg' (below_step h.bel hb1).size (fun k hk => by have := (World.ownsRow.lt (hown.mono hb1) k hk).1; omega)
  obtain ⟨A', n', c', rfl⟩ := ho'.isSl
  have hgs := grown_set w' (b + 1) 2 (.slice A' n' c')
  refine ⟨A, m, c, hbp, _, w', hrun, hbp1, ⟨_, _, _, rfl⟩, ⟨hbr1.setOther (by simp) _, ⟨A', n', c', hbp1.set 2 _, ?_⟩, ?_, hbel1.setCell (by simp; omega) _⟩, ?_⟩
  · exact ho'.kept hgs (fun k hk hv => by injection hk with hk; have := (World.ownsRow.lt ho' k hv).1; omega)
  · exact hbw1.grown hgs (fun e => h4 (Option.some.inj e))
  · simp; omega
theorem InA.mono {w wr w' : World} {b bw base : Nat} {ws fs : List ByteArray} {rt n : Int} {st : Bool} (h : InA w b bw ws base rt n st fs wr) (hb : Below wr.heap.size wr w') : InA w b bw ws base rt n st fs w' := by
  obtain ⟨A, m, c, h1, h2⟩ := h.bp
  exact ⟨h.br.mono hb, ⟨A, m, c, h1.mono hb, h2.mono hb⟩, h.bw.mono hb, below_step h.bel hb⟩
theorem isE_iff {x : ByteArray} : x.toList.isEmpty = true ↔ x.size = 0 := by
  rw [ByteArray.toList_eq' x, List.isEmpty_iff, ← toL_len]
  exact List.length_eq_zero_iff.symm
set_option maxRecDepth 100000 in
set_option maxHeartbeats 8000000 in
theorem acpParse_any (s : ByteArray) (w : World) (hg : Glob w) (hs : s.size ≤ 65536) :
    Calls Tryz.prog 137 #[.string s] w fun e w' => RetAcp w.heap.size (acpP (toL s)) w' e ∧ Below w.heap.size w w' := by
  obtain ⟨R, HR⟩ : ∃ R, Hid (R = acpP (toL s)) := ⟨_, Lib.hid rfl⟩
  rw [← HR.out]
  have HSF := Lib.hid (fun W => cutSuf s W (by omega))
  obtain ⟨Bd, HBd, hBd⟩ : ∃ Bd : ByteArray, Hid (Bd = bsOf (acpBody (toL s))) ∧ Bd.size ≤ 65536 := ⟨_, Lib.hid rfl, by
    have := acpBody_len (toL s)
    rw [toL_len] at this
    rw [bsOf_size]
    omega⟩
  obtain ⟨st, HSt⟩ : ∃ st : Bool, Hid (st = acpStar (toL s)) := ⟨_, Lib.hid rfl⟩
  rw [← HBd.out, ← HSt.out] at HSF
  obtain ⟨ws, HWs⟩ : ∃ ws : List ByteArray, Hid (ws = wds 46 Bd) := ⟨_, Lib.hid rfl⟩
  have HSP := Lib.hid (fun W h => split_any 46 Bd W (hg.mono h) (by omega))
  have hwp := wds_pos 46 Bd
  have hwl := wds_len 46 Bd
  have HWZ : Hid (∀ x ∈ ws, x.size ≤ 65536) := fun x hx => by rw [HWs.out] at hx; have := wds_size hx; omega
  rw [← HWs.out] at HSP hwp hwl
  obtain ⟨w0, fs, hws⟩ : ∃ w0 fs, ws = w0 :: fs := by
    cases ws with
    | nil => simp at hwp
    | cons a b => exact ⟨a, b, rfl⟩
  have hwe : acpWs (toL s) = w0 :: fs := by unfold acpWs; rw [← HBd.out, ← HWs.out, hws]
  obtain ⟨rt, n, okb, HRT⟩ : ∃ (rt n : Int) (okb : Bool), Hid ((rt, n, okb) = rootP (toL w0)) := ⟨_, _, _, Lib.hid rfl⟩
  have hrte : acpRt (toL s) = (rt, n, okb) := by unfold acpRt; rw [hwe, HRT.out]; rfl
  have HR2 : Hid (R = if okb = false then (zAcp, 2) else if fs.any badF then (zAcp, 2) else if acpE ⟨rt, n, fs, st⟩ ≠ 0 then (zAcp, acpE ⟨rt, n, fs, st⟩) else (⟨rt, n, fs, st⟩, 0)) := by
    show _ = _
    rw [HR.out]
    unfold acpP acpOf
    rw [hrte, hwe, ← HSt.out]
    rfl
  have h0z : w0.size ≤ 65536 := HWZ.out w0 (by rw [hws]; simp)
  have HFS : Hid (∀ x ∈ fs, x.size ≤ 65536) := fun x hx => HWZ.out x (by rw [hws]; simp [hx])
  have hfl : fs.length ≤ 65536 := by rw [hws] at hwl; simp at hwl; omega
  have HPR : Hid (∀ W, Calls Tryz.prog 182 #[.string w0] W fun e w' => e = .returned (.tuple #[.int .i64 rt, .int .i64 n, .bool okb]) ∧ Below W.heap.size W w') := fun W => by
    have h := parseRoot_any w0 W (by omega)
    rw [← HRT.out] at h
    exact h
  subst hws
  clear HR HBd HSt HWs HWZ hwe hrte HRT hwp hwl
  go_enter Tryz.func137, Tryz.ntmps137
  go_wp2_with fail
  refine (HSF.out _).mono ?_
  rintro e w1 ⟨rfl, rfl⟩
  go_wp2_with fail
  refine (HSP.out _ (by repeat (first | assumption | exact Below.refl _ _ | apply bw_alloc | apply bw_drew | apply bw_drewN | apply bw_later | apply bw_step))).mono ?_
  rintro e w3 hsp
  obtain ⟨rfl, hbox, hsl, hbel⟩ := hsp
  have hbw3 : Below w.heap.size w w3 := below_step (by repeat (first | assumption | exact Below.refl _ _ | apply bw_alloc | apply bw_drew | apply bw_drewN | apply bw_later | apply bw_step)) hbel
  have br3 : Box w3 w.heap.size [.int .i64 0, .int .i64 0, .slice none 0 0, .bool false] 49 := by refine Box.mono ?_ hbel; exact (by repeat (first | (refine Box.at ?_; (simp; done)) | apply Box.drew | apply Box.alloc | assumption))
  have bp3 : Box w3 (w.heap.size + 1) [.int .i64 0, .int .i64 0, .slice none 0 0, .bool st] 49 := by refine Box.mono ?_ hbel; exact (by repeat (first | (refine Box.at ?_; (simp; done)) | apply Box.drew | apply Box.alloc | assumption))
  generalize hbk : Array.size (World.heap (World.alloc _ _)) = bw at *
  have hbk2 : bw = w.heap.size + 1 + 1 := by rw [← hbk]; simp
  have hbl3 : bw < w3.heap.size := hbox.lt
  have hbw2 : w.heap.size + 1 < bw := by omega
  clear hbk hbk2 hbel
  rw [List.length_cons]
  obtain ⟨b0, o0, e0, hb0, d0⟩ := hsl.str_at (i := 0) (by simp)
  injection e0 with e0
  injection e0 with z1 z2
  subst z1 z2
  have d0' : w3.cell? ⟨bw, 0, none⟩ = some (.string w0) := d0
  clear d0
  go_wp2_with fail
  refine (HPR.out _).mono ?_
  rintro e w4 ⟨rfl, hb4⟩
  have br4 := br3.mono hb4
  have bp4 := bp3.mono hb4
  have hbox4 := hbox.mono hb4
  have hbw4 := below_step hbw3 hb4
  have hbl4 : bw < w4.heap.size := hbox4.lt
  clear d0' br3 bp3 hbox hbw3 hb4 hsl hb0 hbl3
  have p0 := bp4.cell 0 rfl
  have p1 := bp4.cell 1 rfl
  have p2 := bp4.cell 2 rfl
  have p3 := bp4.cell 3 rfl
  have pf := fun i => bp4.free i
  have pl := bp4.lt
  have bp5 := (bp4.set 0 (.int .i64 rt)).set 1 (.int .i64 n)
  have hg5 := grown_trans (grown_set w4 (w.heap.size + 1) 0 (.int .i64 rt)) (grown_set (w4.setCell ⟨w.heap.size + 1, 0, none⟩ (.int .i64 rt)) (w.heap.size + 1) 1 (.int .i64 n))
  have br5 := br4.grown hg5 (by simp)
  have hbox5 := hbox4.grown hg5 (fun e => by have := Option.some.inj e; omega)
  have hbw5 := hbw4.grown hg5 hbw4.size (fun k hk => by injection hk with hk; omega)
  have hin0 : InA w w.heap.size bw (w0 :: fs) (bw + 1) rt n st [] ((w4.setCell ⟨w.heap.size + 1, 0, none⟩ (.int .i64 rt)).setCell ⟨w.heap.size + 1, 1, none⟩ (.int .i64 n)) := ⟨br5, ⟨none, 0, 0, bp5, Own.nil⟩, hbox5, hbw5⟩
  have hz5 : bw + 1 ≤ ((w4.setCell ⟨w.heap.size + 1, 0, none⟩ (.int .i64 rt)).setCell ⟨w.heap.size + 1, 1, none⟩ (.int .i64 n)).heap.size := by simp; omega
  clear br4 bp4 hbox4 hbw4 br5 bp5 hbox5 hbw5 hg5
  cases hok : okb with
  | false =>
    have HB : Hid (R = (zAcp, 2)) := by show _ = _; rw [HR2.out, if_pos hok]
    go_upto_region 8 with fail
    generalize World.setCell (World.setCell w4 _ _) _ _ = w5 at *
    clear p0 p1 p2 p3 pf pl
    have br5 := hin0.br
    have hbw5 := hin0.bel
    have q0 := br5.cell 0 rfl
    have q1 := br5.cell 1 rfl
    have q2 := br5.cell 2 rfl
    have q3 := br5.cell 3 rfl
    have qf := fun i => br5.free i
    have ql := br5.lt
    obtain ⟨hbz, hgz⟩ := br5.store4 (.int .i64 0) (.int .i64 0) (.slice none 0 0) (.bool false)
    have hbwz := hbw5.grown hgz hbw5.size (fun k hk => by injection hk with hk; omega)
    have y0 := hbz.cell 0 rfl
    have y1 := hbz.cell 1 rfl
    have y2 := hbz.cell 2 rfl
    have y3 := hbz.cell 3 rfl
    go_wp2_with fail
    refine bodyPost_ret (v := .tuple #[.agg #[.int .i64 0, .int .i64 0, .slice none 0 0, .bool false], .int .i64 2]) (by simp [results, Tryz.results137, go_sem, y0, y1, y2, y3]) rfl ⟨?_, hbwz⟩
    rw [HB.out]
    exact retAcp_bad
  | true =>
    have HR3 : Hid (R = if fs.any badF then (zAcp, 2) else if acpE ⟨rt, n, fs, st⟩ ≠ 0 then (zAcp, acpE ⟨rt, n, fs, st⟩) else (⟨rt, n, fs, st⟩, 0)) := by show _ = _; rw [HR2.out, if_neg (by rw [hok]; simp)]
    clear HR2
    go_upto_region 8 with fail
    generalize World.setCell (World.setCell w4 _ _) _ _ = w5 at *
    clear p0 p1 p2 p3 pf pl
    by_cases hf0 : fs.length = 0
    · have hin : InA w w.heap.size bw (w0 :: fs) (bw + 1) rt n st fs w5 := (show ∀ l, l = fs → InA w w.heap.size bw (w0 :: fs) (bw + 1) rt n st l w5 → InA w w.heap.size bw (w0 :: fs) (bw + 1) rt n st fs w5 from fun l h k => h ▸ k) [] (List.length_eq_zero_iff.1 hf0).symm hin0
      have HGOOD : Hid (∀ i (h : i < fs.length), badF fs[i] = false) := fun i h => by omega
      clear hin0
      go_wp2_with fail
      go_loop [38] (fun i => i = .int .i64 0) (fun _ => 0)
      case atStart => rfl
      case round =>
        obtain rfl := hrel
        obtain ⟨wr, rfl⟩ : ∃ wr : World, wr = w5 := ⟨_, rfl⟩
        go_upto_region 17 with fail
        clear hf0
        obtain ⟨A, m, c, hbp, hown⟩ := hin.bp
        obtain ⟨A6, c6, hv6, hc6, hs6⟩ := StrsV.of_own hown
        injection hv6 with z1 z2 z3
        subst z1 z2 z3
        have hbw := hin.bel
        have p0 := hbp.cell 0 rfl
        have p1 := hbp.cell 1 rfl
        have p2 := hbp.cell 2 rfl
        have p3 := hbp.cell 3 rfl
        have pl := hbp.lt
        have HCK : Hid (∀ W, Below wr.heap.size wr W → Calls Tryz.prog 73 #[.agg #[.int .i64 rt, .int .i64 n, .slice A fs.length c, .bool st]] W fun e w' => e = .returned (.int .i64 (acpE ⟨rt, n, fs, st⟩)) ∧ Below W.heap.size W w') := fun W hW => acpCheck_any ⟨rt, n, fs, st⟩ A c W (by show fs.length ≤ _; omega) (hg.mono (below_step hbw hW)).kw (hs6.mono hW) (Lib.hid (fun y hy => by have := HFS.out y hy; omega))
        have HANY : Hid (fs.any badF = false) := by
          show _ = _
          rw [List.any_eq_false]
          intro x hx
          obtain ⟨i, hi, rfl⟩ := List.getElem_of_mem hx
          rw [HGOOD.out i hi]
          simp
        have HBAD : Hid (acpE ⟨rt, n, fs, st⟩ ≠ 0 → R = (zAcp, acpE ⟨rt, n, fs, st⟩)) := fun h => by rw [HR3.out, HANY.out, if_neg (by simp), if_pos h]
        have HFINE : Hid (acpE ⟨rt, n, fs, st⟩ = 0 → R = (⟨rt, n, fs, st⟩, 0)) := fun h => by rw [HR3.out, HANY.out, if_neg (by simp), if_neg (by rw [h]; simp)]
        generalize acpE ⟨rt, n, fs, st⟩ = ae at *
        go_wp2_with fail
        refine (HCK.out _ (Below.refl _ _)).mono ?_
        rintro e w7 ⟨rfl, hb7⟩
        have hin7 := hin.mono hb7
        obtain ⟨A', m', c', hbp7', hown7'⟩ := hin7.bp
        clear p0 p1 p2 p3 pl hbp7' hown7' A' m' c'
        have hbp7 := hbp.mono hb7
        have hown7 := hown.mono hb7
        have hbr7 := hin7.br
        have hbw7 := hin7.bel
        have p0 := hbp7.cell 0 rfl
        have p1 := hbp7.cell 1 rfl
        have p2 := hbp7.cell 2 rfl
        have p3 := hbp7.cell 3 rfl
        have pl := hbp7.lt
        have q0 := hbr7.cell 0 rfl
        have q1 := hbr7.cell 1 rfl
        have q2 := hbr7.cell 2 rfl
        have q3 := hbr7.cell 3 rfl
        have qf := fun i => hbr7.free i
        have ql := hbr7.lt
        by_cases hae : ae = 0
        · have HB := Lib.hid (HFINE.out hae)
          subst hae
          obtain ⟨hbz, hgz⟩ := hbr7.store4 (.int .i64 rt) (.int .i64 n) (.slice A fs.length c) (.bool st)
          have hbwz := hbw7.grown hgz hbw7.size (fun k hk => by injection hk with hk; omega)
          have hownz := hown7.kept hgz (fun k hk hv => by injection hk with hk; have := (World.ownsRow.lt hown7 k hv).1; omega)
          have y0 := hbz.cell 0 rfl
          have y1 := hbz.cell 1 rfl
          have y2 := hbz.cell 2 rfl
          have y3 := hbz.cell 3 rfl
          go_wp2_with fail
          refine bodyPost_ret (v := .tuple #[.agg #[.int .i64 rt, .int .i64 n, .slice A fs.length c, .bool st], .int .i64 0]) (by simp [results, Tryz.results137, go_sem, y0, y1, y2, y3]) rfl ⟨?_, hbwz⟩
          rw [HB.out]
          exact ⟨A, fs.length, c, rfl, hownz.base_le' (by omega)⟩
        · have HB := Lib.hid (HBAD.out hae)
          have tq : (ae != 0) = true := by simpa using hae
          clear hae
          obtain ⟨hbz, hgz⟩ := hbr7.store4 (.int .i64 0) (.int .i64 0) (.slice none 0 0) (.bool false)
          have hbwz := hbw7.grown hgz hbw7.size (fun k hk => by injection hk with hk; omega)
          have y0 := hbz.cell 0 rfl
          have y1 := hbz.cell 1 rfl
          have y2 := hbz.cell 2 rfl
          have y3 := hbz.cell 3 rfl
          go_wp2_with fail
          refine bodyPost_ret (v := .tuple #[.agg #[.int .i64 0, .int .i64 0, .slice none 0 0, .bool false], .int .i64 ae]) (by simp [results, Tryz.results137, go_sem, y0, y1, y2, y3]) rfl ⟨?_, hbwz⟩
          rw [HB.out]
          exact retAcp_bad
    · have hf1 : 0 < fs.length := by omega
      have hin1 : InA w w.heap.size bw (w0 :: fs) (bw + 1) rt n st (fs.take 0) w5 := hin0
      have hf2 : fs ≠ [] := fun e => by rw [e] at hf1; simp at hf1
      clear hin0
      go_wp2_with fail
      clear hf2
      go_loopw [38] (fun i wr => ∃ k : Nat, k ≤ fs.length ∧ i = .int .i64 k ∧ InA w w.heap.size bw (w0 :: fs) (bw + 1) rt n st (fs.take k) wr ∧ bw + 1 ≤ wr.heap.size ∧ Hid (∀ i (h : i < fs.length), i < k → badF fs[i] = false)) (fun i _ => fs.length - (intOf i).toNat)
      case atStart => exact ⟨0, Nat.zero_le _, rfl, hin1, hz5, fun _ _ h => by omega⟩
      case round =>
        clear hin1 hz5
        obtain ⟨k, hk, rfl, hin, hz, HG0⟩ := hrel
        by_cases hlt : k < fs.length
        · have dk : wr.cell? ⟨bw, 1 + k, none⟩ = some (.string fs[k]) := hin.bw.cell (1 + k) (by rw [Nat.add_comm]; simp [hlt])
          have dl := hin.bw.lt
          cases he : fs[k].toList.isEmpty with
          | true =>
            have HB : Hid (R = (zAcp, 2)) := by
              show _ = _
              rw [HR3.out, if_pos]
              rw [List.any_eq_true]
              exact ⟨fs[k], List.getElem_mem hlt, by unfold badF; rw [he]; simp⟩
            have br5 := hin.br
            have hbw5 := hin.bel
            have q0 := br5.cell 0 rfl
            have q1 := br5.cell 1 rfl
            have q2 := br5.cell 2 rfl
            have q3 := br5.cell 3 rfl
            have qf := fun i => br5.free i
            have ql := br5.lt
            obtain ⟨hbz, hgz⟩ := br5.store4 (.int .i64 0) (.int .i64 0) (.slice none 0 0) (.bool false)
            have hbwz := hbw5.grown hgz hbw5.size (fun k hk => by injection hk with hk; omega)
            have y0 := hbz.cell 0 rfl
            have y1 := hbz.cell 1 rfl
            have y2 := hbz.cell 2 rfl
            have y3 := hbz.cell 3 rfl
            go_wp2_with fail
            refine bodyPost_ret (v := .tuple #[.agg #[.int .i64 0, .int .i64 0, .slice none 0 0, .bool false], .int .i64 2]) (by simp [results, Tryz.results137, go_sem, y0, y1, y2, y3]) rfl ⟨?_, hbwz⟩
            rw [HB.out]
            exact retAcp_bad
          | false =>
            have he2 : fs[k].toList ≠ [] := fun h => by rw [h] at he; simp at he
            by_cases hst : (42 : UInt8) ∈ toL fs[k]
            · have HB : Hid (R = (zAcp, 2)) := by
                show _ = _
                rw [HR3.out, if_pos]
                rw [List.any_eq_true]
                exact ⟨fs[k], List.getElem_mem hlt, by unfold badF; rw [decide_eq_true hst]; simp⟩
              have HC : Hid (∀ W, Calls Tryz.prog 45 #[.string fs[k], .string ⟨#[42]⟩] W fun e w' => e = .returned (.bool true) ∧ W = w') := fun W => by
                have h := containsOne 42 fs[k] W
                rw [decide_eq_true hst] at h
                exact h
              clear hst
              have br5 := hin.br
              have hbw5 := hin.bel
              go_wp2_with fail
              refine (HC.out _).mono ?_
              rintro e w6 ⟨rfl, rfl⟩
              have q0 := br5.cell 0 rfl
              have q1 := br5.cell 1 rfl
              have q2 := br5.cell 2 rfl
              have q3 := br5.cell 3 rfl
              have qf := fun i => br5.free i
              have ql := br5.lt
              obtain ⟨hbz, hgz⟩ := br5.store4 (.int .i64 0) (.int .i64 0) (.slice none 0 0) (.bool false)
              have hbwz := hbw5.grown hgz hbw5.size (fun k hk => by injection hk with hk; omega)
              have y0 := hbz.cell 0 rfl
              have y1 := hbz.cell 1 rfl
              have y2 := hbz.cell 2 rfl
              have y3 := hbz.cell 3 rfl
              go_wp2_with fail
              refine bodyPost_ret (v := .tuple #[.agg #[.int .i64 0, .int .i64 0, .slice none 0 0, .bool false], .int .i64 2]) (by simp [results, Tryz.results137, go_sem, y0, y1, y2, y3]) rfl ⟨?_, hbwz⟩
              rw [HB.out]
              exact retAcp_bad
            · have HC : Hid (∀ W, Calls Tryz.prog 45 #[.string fs[k], .string ⟨#[42]⟩] W fun e w' => e = .returned (.bool false) ∧ W = w') := fun W => by
                have h := containsOne 42 fs[k] W
                rw [decide_eq_false hst] at h
                exact h
              have HG1 : Hid (∀ i (h : i < fs.length), i < k + 1 → badF fs[i] = false) := fun i h hi => by
                by_cases e : i = k
                · subst e; unfold badF; rw [he, decide_eq_false hst]; rfl
                · exact HG0.out i h (by omega)
              clear hst
              obtain ⟨A, m, c, hbp, v', w', hrun, hbp1, ⟨B, q, d, rfl⟩, hin', hz'⟩ := hin.push (Nat.le_refl _) (by omega) (by omega) hz (by omega) (by rw [List.length_take]; omega) fs[k]
              rw [← List.take_succ_eq_append_getElem hlt] at hin'
              have p2 := hbp.cell 2 rfl
              have pl := hbp.lt
              have x2 := hbp1.cell 2 rfl
              have xf := fun i => hbp1.free i
              have xl := hbp1.lt
              go_wp2_with fail
              refine (HC.out _).mono ?_
              rintro e w6 ⟨rfl, rfl⟩
              go_wp2_with (at_builtin; refine wpList_appendRun rfl (.tmp 50) (.tmp 52) 38 rfl rfl rfl hrun ?_)
              go_roundw
              case rel => exact ⟨k + 1, by omega, by go_num, hin', hz', HG1⟩
              case measure => simp [intOf]; omega
        · obtain rfl : k = fs.length := by omega
          rw [List.take_length] at hin
          have HGOOD : Hid (∀ i (h : i < fs.length), badF fs[i] = false) := fun i h => HG0.out i h h
          clear HG0 hlt
          obtain ⟨A, m, c, hbp, hown⟩ := hin.bp
          obtain ⟨A6, c6, hv6, hc6, hs6⟩ := StrsV.of_own hown
          injection hv6 with z1 z2 z3
          subst z1 z2 z3
          have hbw := hin.bel
          have p0 := hbp.cell 0 rfl
          have p1 := hbp.cell 1 rfl
          have p2 := hbp.cell 2 rfl
          have p3 := hbp.cell 3 rfl
          have pl := hbp.lt
          have HCK : Hid (∀ W, Below wr.heap.size wr W → Calls Tryz.prog 73 #[.agg #[.int .i64 rt, .int .i64 n, .slice A fs.length c, .bool st]] W fun e w' => e = .returned (.int .i64 (acpE ⟨rt, n, fs, st⟩)) ∧ Below W.heap.size W w') := fun W hW => acpCheck_any ⟨rt, n, fs, st⟩ A c W (by show fs.length ≤ _; omega) (hg.mono (below_step hbw hW)).kw (hs6.mono hW) (Lib.hid (fun y hy => by have := HFS.out y hy; omega))
          have HANY : Hid (fs.any badF = false) := by
            show _ = _
            rw [List.any_eq_false]
            intro x hx
            obtain ⟨i, hi, rfl⟩ := List.getElem_of_mem hx
            rw [HGOOD.out i hi]
            simp
          have HBAD : Hid (acpE ⟨rt, n, fs, st⟩ ≠ 0 → R = (zAcp, acpE ⟨rt, n, fs, st⟩)) := fun h => by rw [HR3.out, HANY.out, if_neg (by simp), if_pos h]
          have HFINE : Hid (acpE ⟨rt, n, fs, st⟩ = 0 → R = (⟨rt, n, fs, st⟩, 0)) := fun h => by rw [HR3.out, HANY.out, if_neg (by simp), if_neg (by rw [h]; simp)]
          generalize acpE ⟨rt, n, fs, st⟩ = ae at *
          go_wp2_with fail
          refine (HCK.out _ (Below.refl _ _)).mono ?_
          rintro e w7 ⟨rfl, hb7⟩
          have hin7 := hin.mono hb7
          obtain ⟨A', m', c', hbp7', hown7'⟩ := hin7.bp
          clear p0 p1 p2 p3 pl hbp7' hown7' A' m' c'
          have hbp7 := hbp.mono hb7
          have hown7 := hown.mono hb7
          have hbr7 := hin7.br
          have hbw7 := hin7.bel
          have p0 := hbp7.cell 0 rfl
          have p1 := hbp7.cell 1 rfl
          have p2 := hbp7.cell 2 rfl
          have p3 := hbp7.cell 3 rfl
          have pl := hbp7.lt
          have q0 := hbr7.cell 0 rfl
          have q1 := hbr7.cell 1 rfl
          have q2 := hbr7.cell 2 rfl
          have q3 := hbr7.cell 3 rfl
          have qf := fun i => hbr7.free i
          have ql := hbr7.lt
          by_cases hae : ae = 0
          · have HB := Lib.hid (HFINE.out hae)
            subst hae
            obtain ⟨hbz, hgz⟩ := hbr7.store4 (.int .i64 rt) (.int .i64 n) (.slice A fs.length c) (.bool st)
            have hbwz := hbw7.grown hgz hbw7.size (fun k hk => by injection hk with hk; omega)
            have hownz := hown7.kept hgz (fun k hk hv => by injection hk with hk; have := (World.ownsRow.lt hown7 k hv).1; omega)
            have y0 := hbz.cell 0 rfl
            have y1 := hbz.cell 1 rfl
            have y2 := hbz.cell 2 rfl
            have y3 := hbz.cell 3 rfl
            go_wp2_with fail
            refine bodyPost_ret (v := .tuple #[.agg #[.int .i64 rt, .int .i64 n, .slice A fs.length c, .bool st], .int .i64 0]) (by simp [results, Tryz.results137, go_sem, y0, y1, y2, y3]) rfl ⟨?_, hbwz⟩
            rw [HB.out]
            exact ⟨A, fs.length, c, rfl, hownz.base_le' (by omega)⟩
          · have HB := Lib.hid (HBAD.out hae)
            have tq : (ae != 0) = true := by simpa using hae
            clear hae
            obtain ⟨hbz, hgz⟩ := hbr7.store4 (.int .i64 0) (.int .i64 0) (.slice none 0 0) (.bool false)
            have hbwz := hbw7.grown hgz hbw7.size (fun k hk => by injection hk with hk; omega)
            have y0 := hbz.cell 0 rfl
            have y1 := hbz.cell 1 rfl
            have y2 := hbz.cell 2 rfl
            have y3 := hbz.cell 3 rfl
            go_wp2_with fail
            refine bodyPost_ret (v := .tuple #[.agg #[.int .i64 0, .int .i64 0, .slice none 0 0, .bool false], .int .i64 ae]) (by simp [results, Tryz.results137, go_sem, y0, y1, y2, y3]) rfl ⟨?_, hbwz⟩
            rw [HB.out]
            exact retAcp_bad

end Go.Proofs.YthabojhnliomnaaGreatDoor

namespace Go.Proofs.YthabojhnliomnaaGreatDoor
open Go.RowKit
set_option linter.unusedVariables false

def zRul : Rul := ⟨0, ⟨#[]⟩, ⟨#[]⟩, zAcp, ⟨#[]⟩⟩
def kindP (x : ByteArray) : Int := if toL x = [115, 111, 117, 114, 99, 101] then 1 else if toL x = [115, 105, 110, 107] then 2 else if toL x = [115, 97, 110, 105, 116, 105, 122, 101, 114] then 3 else 0
/-- The rule with five words. -/
def ruleW (x0 x1 x2 x3 x4 : ByteArray) : Rul × Int := if kindP x0 = 0 then (zRul, 2) else if (acpP (toL x3)).2 ≠ 0 then (zRul, (acpP (toL x3)).2) else (⟨kindP x0, x1, x2, (acpP (toL x3)).1, x4⟩, 0)
def ruleP (s : ByteArray) : Rul × Int := if hasE (wds 32 s) then (zRul, 2) else match wds 32 s with
  | [x0, x1, x2, x3, x4] => ruleW x0 x1 x2 x3 x4
  | _ => (zRul, 2)
def RetRul (base : Nat) (r : Rul × Int) (w' : World) (e : Ending) : Prop := ∃ A n c, e = .returned (.tuple #[.agg #[.int .i64 r.1.kind, .string r.1.cls, .string r.1.mth, .int .i64 r.1.pth.root, .int .i64 r.1.pth.n, .slice A n c, .bool r.1.pth.star, .string r.1.tag], .int .i64 r.2]) ∧ Own cellsStr 1 base 9 w' (.slice A n c) r.1.pth.fields
theorem retRul_bad {base : Nat} {w' : World} {e : Int} : RetRul base (zRul, e) w' (.returned (.tuple #[.agg #[.int .i64 0, .string ⟨#[]⟩, .string ⟨#[]⟩, .int .i64 0, .int .i64 0, .slice none 0 0, .bool false, .string ⟨#[]⟩], .int .i64 e])) := ⟨none, 0, 0, rfl, Own.nil⟩
theorem eqB {x : ByteArray} {l : List UInt8} (h : toL x = l) : (x.toList == l) = true := by rw [ByteArray.toList_eq' x, h]; simp
theorem neB {x : ByteArray} {l : List UInt8} (h : ¬ toL x = l) : (x.toList == l) = false := by rw [ByteArray.toList_eq' x, beq_eq_false_iff_ne]; exact h
theorem rdKind_any (x : ByteArray) (w : World) (b : Nat) (cl mt tg : ByteArray) (rt n : Int) (fs : Value) (st : Bool) (kd : Int) (hb : Box w b (rdr kd cl mt rt n fs st tg) 125) :
    Calls Tryz.prog 88 #[.pointer (some ⟨b, 0, none⟩), .string x] w fun e w' => e = .returned (.int .i64 (if kindP x = 0 then 2 else 0)) ∧ Box w' b (rdr (if kindP x = 0 then kd else kindP x) cl mt rt n fs st tg) 125 ∧ w.grownBy w' (some b) := by
  have c0 := hb.cell 0 rfl
  have bl := hb.lt
  have bf := fun i => hb.free i
  by_cases h1 : toL x = [115, 111, 117, 114, 99, 101]
  · have HK : Hid (kindP x = 1) := if_pos h1
    have bn := hb.set 0 (.int .i64 1)
    have bg := grown_set w b 0 (.int .i64 1)
    have t1 := eqB h1
    clear h1
    rw [HK.out]
    go_enter Tryz.func88, Tryz.ntmps88
    go_wp2_with fail
    go_ret
    exact ⟨rfl, bn, bg⟩
  have t1 := neB h1
  by_cases h2 : toL x = [115, 105, 110, 107]
  · have HK : Hid (kindP x = 2) := by show _ = _; unfold kindP; rw [if_neg h1, if_pos h2]
    have bn := hb.set 0 (.int .i64 2)
    have bg := grown_set w b 0 (.int .i64 2)
    have t2 := eqB h2
    clear h1 h2
    rw [HK.out]
    go_enter Tryz.func88, Tryz.ntmps88
    go_wp2_with fail
    go_ret
    exact ⟨rfl, bn, bg⟩
  have t2 := neB h2
  by_cases h3 : toL x = [115, 97, 110, 105, 116, 105, 122, 101, 114]
  · have HK : Hid (kindP x = 3) := by show _ = _; unfold kindP; rw [if_neg h1, if_neg h2, if_pos h3]
    have bn := hb.set 0 (.int .i64 3)
    have bg := grown_set w b 0 (.int .i64 3)
    have t3 := eqB h3
    clear h1 h2 h3
    rw [HK.out]
    go_enter Tryz.func88, Tryz.ntmps88
    go_wp2_with fail
    go_ret
    exact ⟨rfl, bn, bg⟩
  have t3 := neB h3
  have HK : Hid (kindP x = 0) := by show _ = _; unfold kindP; rw [if_neg h1, if_neg h2, if_neg h3]
  clear h1 h2 h3
  rw [HK.out]
  go_enter Tryz.func88, Tryz.ntmps88
  go_wp2_with fail
  go_ret
  exact ⟨rfl, hb, ⟨rfl, rfl, rfl, Nat.le_refl _, fun k hk _ => rfl⟩⟩
set_option maxRecDepth 100000 in
theorem rdAt_any (x : ByteArray) (w : World) (hg : Glob w) (hx : x.size ≤ 65536) (b : Nat) (cl mt tg : ByteArray) (kd : Int) (hb : Box w b (rdr kd cl mt 0 0 (.slice none 0 0) false tg) 125) :
    Calls Tryz.prog 91 #[.pointer (some ⟨b, 0, none⟩), .string x] w fun e w' => e = .returned (.int .i64 (acpP (toL x)).2) ∧ (∃ A n c, Box w' b (rdr kd cl mt (acpP (toL x)).1.root (acpP (toL x)).1.n (.slice A n c) (acpP (toL x)).1.star tg) 125 ∧ Own cellsStr 1 w.heap.size 9 w' (.slice A n c) (acpP (toL x)).1.fields) ∧ w.grownBy w' (some b) := by
  have HP := Lib.hid (acpParse_any x w hg hx)
  obtain ⟨⟨⟨rt, n, fl, st⟩, er⟩, HR⟩ : ∃ r, Hid (acpP (toL x) = r) := ⟨_, Lib.hid rfl⟩
  rw [HR.out] at HP ⊢
  clear HR
  go_enter Tryz.func91, Tryz.ntmps91
  go_wp2_with fail
  refine HP.out.mono ?_
  rintro e w1 ⟨⟨A, m, c, rfl, ho⟩, hb1⟩
  have bx1 := hb.mono hb1
  have c0 := bx1.cell 3 rfl
  have c1 := bx1.cell 4 rfl
  have c2 := bx1.cell 5 rfl
  have c3 := bx1.cell 6 rfl
  have bl := bx1.lt
  have bf := fun i => bx1.free i
  have bn := (((bx1.set 3 (.int .i64 rt)).set 4 (.int .i64 n)).set 5 (.slice A m c)).set 6 (.bool st)
  have bg := grown_trans (grown_trans (grown_trans (grown_set w1 b 3 (.int .i64 rt)) (grown_set _ b 4 (.int .i64 n))) (grown_set _ b 5 (.slice A m c))) (grown_set _ b 6 (.bool st))
  have hg1 : w.grownBy w1 (some b) := ⟨hb1.os, hb1.tape, hb1.output, hb1.size, fun k hk _ => hb1.block k hk⟩
  have hlt := hb.lt
  have ho2 := ho.kept bg (fun k hk hv => by injection hk with hk; have := (World.ownsRow.lt ho k hv).1; omega)
  go_wp2_with fail
  go_ret
  exact ⟨rfl, ⟨A, m, c, bn, ho2⟩, grown_trans hg1 bg⟩
/-- While a rule's words are read. -/
structure InQ (w : World) (nw nd ns : Nat) (x0 x1 x2 x3 x4 : ByteArray) (c : List Value) (W : World) : Prop where
  br : Box W w.heap.size [.int .i64 0, .string ⟨#[]⟩, .string ⟨#[]⟩, .int .i64 0, .int .i64 0, .slice none 0 0, .bool false, .string ⟨#[]⟩] 51
  bw : Box W nw [.string x0, .string x1, .string x2, .string x3, .string x4] 9
  bd : Box W nd c 125
  bs : Box W ns (stepCells nd) 126
  bel : Below w.heap.size w W
  lt : w.heap.size < nw ∧ nw < nd ∧ nd < ns
theorem InQ.next {w W W' : World} {nw nd ns : Nat} {x0 x1 x2 x3 x4 : ByteArray} {c c' : List Value} (h : InQ w nw nd ns x0 x1 x2 x3 x4 c W) (hd : Box W' nd c' 125) (hg : W.grownBy W' (some nd)) : InQ w nw nd ns x0 x1 x2 x3 x4 c' W' := by
  have hl := h.lt
  exact ⟨h.br.grown hg (by simp; omega), h.bw.grown hg (by simp; omega), hd, h.bs.grown hg (by simp; omega), h.bel.grown hg h.bel.size (fun k hk => by injection hk with hk; omega), hl⟩
/-- Before: the result's block alone. -/
structure InB (w W : World) : Prop where
  br : Box W w.heap.size [.int .i64 0, .string ⟨#[]⟩, .string ⟨#[]⟩, .int .i64 0, .int .i64 0, .slice none 0 0, .bool false, .string ⟨#[]⟩] 51
  bel : Below w.heap.size w W
theorem five {ws : List ByteArray} (h : ws.length = 5) : ∃ x0 x1 x2 x3 x4, ws = [x0, x1, x2, x3, x4] := by
  match ws, h with
  | [x0, x1, x2, x3, x4], _ => exact ⟨x0, x1, x2, x3, x4, rfl⟩
set_option maxRecDepth 100000 in
set_option maxHeartbeats 8000000 in
theorem parseRule_any (s : ByteArray) (w : World) (hg : Glob w) (hs : s.size ≤ 65536) : Calls Tryz.prog 44 #[.string s] w fun e w' => RetRul w.heap.size (ruleP s) w' e ∧ Below w.heap.size w w' := by
  obtain ⟨R, HR⟩ : ∃ R, Hid (R = ruleP s) := ⟨_, Lib.hid rfl⟩
  rw [← HR.out]
  obtain ⟨ws, HWs⟩ : ∃ ws : List ByteArray, Hid (ws = wds 32 s) := ⟨_, Lib.hid rfl⟩
  have HSP := Lib.hid (fun W h => split_any 32 s W (hg.mono h) (by omega))
  have hwl := wds_len 32 s
  have HWZ : Hid (∀ x ∈ ws, x.size ≤ 65536) := fun x hx => by rw [HWs.out] at hx; have := wds_size hx; omega
  have HR2 : Hid (R = if hasE ws then (zRul, 2) else match ws with
    | [x0, x1, x2, x3, x4] => ruleW x0 x1 x2 x3 x4
    | _ => (zRul, 2)) := by show _ = _; rw [HR.out, HWs.out]; rfl
  rw [← HWs.out] at HSP hwl
  clear HR HWs
  go_enter Tryz.func44, Tryz.ntmps44
  go_wp2_with fail
  refine (HSP.out _ (by repeat (first | assumption | exact Below.refl _ _ | apply bw_alloc | apply bw_drew | apply bw_drewN | apply bw_later | apply bw_step))).mono ?_
  rintro e w1 hsp
  obtain ⟨rfl, hbox, hsl, hbel⟩ := hsp
  have hbw1 : Below w.heap.size w w1 := below_step (by repeat (first | assumption | exact Below.refl _ _ | apply bw_alloc | apply bw_drew | apply bw_drewN | apply bw_later | apply bw_step)) hbel
  have br1 : Box w1 w.heap.size [.int .i64 0, .string ⟨#[]⟩, .string ⟨#[]⟩, .int .i64 0, .int .i64 0, .slice none 0 0, .bool false, .string ⟨#[]⟩] 51 := by refine Box.mono ?_ hbel; exact (by repeat (first | (refine Box.at ?_; (simp; done)) | apply Box.drew | apply Box.alloc | assumption))
  have hlt1 : w.heap.size < w1.heap.size := br1.lt
  have hkb : (w.alloc (.cells #[.int .i64 0, .string ⟨#[]⟩, .string ⟨#[]⟩, .int .i64 0, .int .i64 0, .slice none 0 0, .bool false, .string ⟨#[]⟩] 51)).heap.size = w.heap.size + 1 := by simp
  rw [hkb] at hbox hsl ⊢
  clear hkb hbel
  have hwb : w.heap.size + 1 < w1.heap.size := hbox.lt
  by_cases h5 : ws.length = 5
  case neg =>
    have HB : Hid (R = (zRul, 2)) := by
      show _ = _
      rw [HR2.out]
      split
      · rfl
      · split
        · simp at h5
        · rfl
    have t5 : ((ws.length : Int) != 5) = true := by
      have : ((ws.length : Int)) ≠ 5 := by omega
      simpa using this
    clear h5
    go_upto_region 4 with fail
    generalize hW : World.alloc (World.alloc w1 _) _ = W2
    have h0 : InB w W2 := by rw [← hW]; exact ⟨(br1.alloc _).alloc _, bw_alloc (bw_alloc hbw1)⟩
    clear hW
    have r0 := h0.br.cell 0 rfl
    have r1 := h0.br.cell 1 rfl
    have r2 := h0.br.cell 2 rfl
    have r3 := h0.br.cell 3 rfl
    have r4 := h0.br.cell 4 rfl
    have r5 := h0.br.cell 5 rfl
    have r6 := h0.br.cell 6 rfl
    have r7 := h0.br.cell 7 rfl
    have rl := h0.br.lt
    have rf := fun i => h0.br.free i
    obtain ⟨bx2, hg2⟩ := h0.br.store8 (.int .i64 0) (.string ⟨#[]⟩) (.string ⟨#[]⟩) (.int .i64 0) (.int .i64 0) (.slice none 0 0) (.bool false) (.string ⟨#[]⟩)
    have q0 := bx2.cell 0 rfl
    have q1 := bx2.cell 1 rfl
    have q2 := bx2.cell 2 rfl
    have q3 := bx2.cell 3 rfl
    have q4 := bx2.cell 4 rfl
    have q5 := bx2.cell 5 rfl
    have q6 := bx2.cell 6 rfl
    have q7 := bx2.cell 7 rfl
    have hbw2 := h0.bel.grown hg2 h0.bel.size (fun k hk => by injection hk with hk; omega)
    go_wp2_with fail
    refine bodyPost_ret (v := .tuple #[.agg #[.int .i64 0, .string ⟨#[]⟩, .string ⟨#[]⟩, .int .i64 0, .int .i64 0, .slice none 0 0, .bool false, .string ⟨#[]⟩], .int .i64 2]) (by simp [results, Tryz.results44, go_sem, q0, q1, q2, q3, q4, q5, q6, q7]) rfl ⟨?_, hbw2⟩
    rw [HB.out]
    exact retRul_bad
  obtain ⟨x0, x1, x2, x3, x4, rfl⟩ := five h5
  rw [show [x0, x1, x2, x3, x4].length = 5 from rfl]
  clear h5 hwl
  have HWE : Hid (∀ W, Sl Lay.str W (some ⟨w.heap.size + 1, 0, none⟩) [x0, x1, x2, x3, x4] → Calls Tryz.prog 74 #[.slice (some ⟨w.heap.size + 1, 0, none⟩) 5 5, .string ⟨#[]⟩] W fun e w' => e = .returned (.bool (hasE [x0, x1, x2, x3, x4])) ∧ W = w') := fun W h => containsEmpty [x0, x1, x2, x3, x4] (by simp) h
  go_upto_region 4 with fail
  generalize hW : World.alloc (World.alloc w1 _) _ = W2
  have hb12 : Below w1.heap.size w1 W2 := by rw [← hW]; exact (by repeat (first | assumption | exact Below.refl _ _ | apply bw_alloc | apply bw_drew | apply bw_drewN | apply bw_later | apply bw_step))
  have h0 : InQ w (w.heap.size + 1) w1.heap.size (w1.heap.size + 1) x0 x1 x2 x3 x4 (rdr 0 ⟨#[]⟩ ⟨#[]⟩ 0 0 (.slice none 0 0) false ⟨#[]⟩) W2 := by
    rw [← hW]
    exact ⟨(br1.alloc _).alloc _, (hbox.alloc _).alloc _, by unfold rdr; exact (by repeat (first | (refine Box.at ?_; (simp; done)) | apply Box.drew | apply Box.alloc | assumption)), by unfold stepCells; exact (by repeat (first | (refine Box.at ?_; (simp; done)) | apply Box.drew | apply Box.alloc | assumption)), bw_alloc (bw_alloc hbw1), by omega⟩
  clear hW
  go_wp2_with fail
  refine (HWE.out _ (hsl.mono hb12)).mono ?_
  rintro e w3 ⟨rfl, rfl⟩
  cases hE : hasE [x0, x1, x2, x3, x4] with
  | true =>
    have HB : Hid (R = (zRul, 2)) := by show _ = _; rw [HR2.out, if_pos hE]
    have r0 := h0.br.cell 0 rfl
    have r1 := h0.br.cell 1 rfl
    have r2 := h0.br.cell 2 rfl
    have r3 := h0.br.cell 3 rfl
    have r4 := h0.br.cell 4 rfl
    have r5 := h0.br.cell 5 rfl
    have r6 := h0.br.cell 6 rfl
    have r7 := h0.br.cell 7 rfl
    have rl := h0.br.lt
    have rf := fun i => h0.br.free i
    obtain ⟨bx2, hg2⟩ := h0.br.store8 (.int .i64 0) (.string ⟨#[]⟩) (.string ⟨#[]⟩) (.int .i64 0) (.int .i64 0) (.slice none 0 0) (.bool false) (.string ⟨#[]⟩)
    have q0 := bx2.cell 0 rfl
    have q1 := bx2.cell 1 rfl
    have q2 := bx2.cell 2 rfl
    have q3 := bx2.cell 3 rfl
    have q4 := bx2.cell 4 rfl
    have q5 := bx2.cell 5 rfl
    have q6 := bx2.cell 6 rfl
    have q7 := bx2.cell 7 rfl
    have hbw2 := h0.bel.grown hg2 h0.bel.size (fun k hk => by injection hk with hk; omega)
    go_wp2_with fail
    refine bodyPost_ret (v := .tuple #[.agg #[.int .i64 0, .string ⟨#[]⟩, .string ⟨#[]⟩, .int .i64 0, .int .i64 0, .slice none 0 0, .bool false, .string ⟨#[]⟩], .int .i64 2]) (by simp [results, Tryz.results44, go_sem, q0, q1, q2, q3, q4, q5, q6, q7]) rfl ⟨?_, hbw2⟩
    rw [HB.out]
    exact retRul_bad
  | false =>
  have HR3 : Hid (R = ruleW x0 x1 x2 x3 x4) := by show _ = _; rw [HR2.out, if_neg (by rw [hE]; simp)]
  have z3 : x3.size ≤ 65536 := HWZ.out x3 (by simp)
  clear HR2 HWZ hE hsl hbox br1 hbw1 HWE HSP
  have hz1 : w.heap.size < w1.heap.size := by omega
  generalize w1.heap.size = nd at *
  generalize w1.heap.size + 1 = ns at *
  have s0 := h0.bs.cell 0 rfl
  have s1 := h0.bs.cell 1 rfl
  have s2 := h0.bs.cell 2 rfl
  have s3 := h0.bs.cell 3 rfl
  have s4 := h0.bs.cell 4 rfl
  have v0 := h0.bw.cell 0 rfl
  have v1 := h0.bw.cell 1 rfl
  have v2 := h0.bw.cell 2 rfl
  have v3 := h0.bw.cell 3 rfl
  have v4 := h0.bw.cell 4 rfl
  have sl := h0.bs.lt
  have vl := h0.bw.lt
  go_wp2_with fail
  refine wp_loop_rounds 6 ?_
  rw [rounds_succ]
  go_wp2_with fail
  refine (rdKind_any x0 _ _ _ _ _ _ _ _ _ _ h0.bd).mono ?_
  rintro e W1 ⟨rfl, hd, hgr⟩
  by_cases hk0 : kindP x0 = 0
  · have HB : Hid (R = (zRul, 2)) := by show _ = _; rw [HR3.out, ruleW, if_pos hk0]
    rw [if_pos hk0] at hd ⊢
    have h1 := h0.next hd hgr
    clear hd hgr hk0 s0 s1 s2 s3 s4 v0 v1 v2 v3 v4 sl vl
    have r0 := h1.br.cell 0 rfl
    have r1 := h1.br.cell 1 rfl
    have r2 := h1.br.cell 2 rfl
    have r3 := h1.br.cell 3 rfl
    have r4 := h1.br.cell 4 rfl
    have r5 := h1.br.cell 5 rfl
    have r6 := h1.br.cell 6 rfl
    have r7 := h1.br.cell 7 rfl
    have rl := h1.br.lt
    have rf := fun i => h1.br.free i
    obtain ⟨bx2, hg2⟩ := h1.br.store8 (.int .i64 0) (.string ⟨#[]⟩) (.string ⟨#[]⟩) (.int .i64 0) (.int .i64 0) (.slice none 0 0) (.bool false) (.string ⟨#[]⟩)
    have q0 := bx2.cell 0 rfl
    have q1 := bx2.cell 1 rfl
    have q2 := bx2.cell 2 rfl
    have q3 := bx2.cell 3 rfl
    have q4 := bx2.cell 4 rfl
    have q5 := bx2.cell 5 rfl
    have q6 := bx2.cell 6 rfl
    have q7 := bx2.cell 7 rfl
    have hbw2 := h1.bel.grown hg2 h1.bel.size (fun k hk => by injection hk with hk; omega)
    go_wp2_with fail
    refine bodyPost_ret (v := .tuple #[.agg #[.int .i64 0, .string ⟨#[]⟩, .string ⟨#[]⟩, .int .i64 0, .int .i64 0, .slice none 0 0, .bool false, .string ⟨#[]⟩], .int .i64 2]) (by simp [results, Tryz.results44, go_sem, q0, q1, q2, q3, q4, q5, q6, q7]) rfl ⟨?_, hbw2⟩
    rw [HB.out]
    exact retRul_bad
  have HR4 : Hid (R = if (acpP (toL x3)).2 ≠ 0 then (zRul, (acpP (toL x3)).2) else (⟨kindP x0, x1, x2, (acpP (toL x3)).1, x4⟩, 0)) := by show _ = _; rw [HR3.out, ruleW, if_neg hk0]
  rw [if_neg hk0] at hd ⊢
  clear HR3 hk0
  generalize kindP x0 = kd at *
  have h1 := h0.next hd hgr
  clear hd hgr s0 s1 s2 s3 s4 v0 v1 v2 v3 v4 sl vl
  have s0 := h1.bs.cell 0 rfl
  have s1 := h1.bs.cell 1 rfl
  have s2 := h1.bs.cell 2 rfl
  have s3 := h1.bs.cell 3 rfl
  have s4 := h1.bs.cell 4 rfl
  have v0 := h1.bw.cell 0 rfl
  have v1 := h1.bw.cell 1 rfl
  have v2 := h1.bw.cell 2 rfl
  have v3 := h1.bw.cell 3 rfl
  have v4 := h1.bw.cell 4 rfl
  have sl := h1.bs.lt
  have vl := h1.bw.lt
  go_wp2_with fail
  rw [rounds_succ]
  go_wp2_with fail
  refine (rdClass x1 _ _ _ _ _ _ _ _ _ _ h1.bd).mono ?_
  rintro e W2' ⟨rfl, hd, hgr⟩
  have h2 := h1.next hd hgr
  clear hd hgr s0 s1 s2 s3 s4 v0 v1 v2 v3 v4 sl vl
  have s0 := h2.bs.cell 0 rfl
  have s1 := h2.bs.cell 1 rfl
  have s2 := h2.bs.cell 2 rfl
  have s3 := h2.bs.cell 3 rfl
  have s4 := h2.bs.cell 4 rfl
  have v0 := h2.bw.cell 0 rfl
  have v1 := h2.bw.cell 1 rfl
  have v2 := h2.bw.cell 2 rfl
  have v3 := h2.bw.cell 3 rfl
  have v4 := h2.bw.cell 4 rfl
  have sl := h2.bs.lt
  have vl := h2.bw.lt
  go_wp2_with fail
  rw [rounds_succ]
  go_wp2_with fail
  refine (rdMethod x2 _ _ _ _ _ _ _ _ _ _ h2.bd).mono ?_
  rintro e W3 ⟨rfl, hd, hgr⟩
  have h3 := h2.next hd hgr
  clear hd hgr s0 s1 s2 s3 s4 v0 v1 v2 v3 v4 sl vl
  have s0 := h3.bs.cell 0 rfl
  have s1 := h3.bs.cell 1 rfl
  have s2 := h3.bs.cell 2 rfl
  have s3 := h3.bs.cell 3 rfl
  have s4 := h3.bs.cell 4 rfl
  have v0 := h3.bw.cell 0 rfl
  have v1 := h3.bw.cell 1 rfl
  have v2 := h3.bw.cell 2 rfl
  have v3 := h3.bw.cell 3 rfl
  have v4 := h3.bw.cell 4 rfl
  have sl := h3.bs.lt
  have vl := h3.bw.lt
  go_wp2_with fail
  rw [rounds_succ]
  go_wp2_with fail
  refine (rdAt_any x3 _ (hg.mono h3.bel) z3 _ _ _ _ _ h3.bd).mono ?_
  rintro e W4 ⟨rfl, ⟨A, m, c, hd, hown⟩, hgr⟩
  have h4 := h3.next hd hgr
  have hW3 := h3.bel.size
  obtain ⟨⟨⟨rt, n, fl, st⟩, er⟩, HAP⟩ : ∃ r, Hid (acpP (toL x3) = r) := ⟨_, Lib.hid rfl⟩
  rw [HAP.out] at HR4 h4 hown ⊢
  simp only at HR4 h4 hown ⊢
  clear hd HAP s0 s1 s2 s3 s4 v0 v1 v2 v3 v4 sl vl
  by_cases her : er = 0
  case neg =>
    have HB : Hid (R = (zRul, er)) := by show _ = _; rw [HR4.out, if_pos her]
    have ter : (er != 0) = true := by simpa using her
    clear her
    have r0 := h4.br.cell 0 rfl
    have r1 := h4.br.cell 1 rfl
    have r2 := h4.br.cell 2 rfl
    have r3 := h4.br.cell 3 rfl
    have r4 := h4.br.cell 4 rfl
    have r5 := h4.br.cell 5 rfl
    have r6 := h4.br.cell 6 rfl
    have r7 := h4.br.cell 7 rfl
    have rl := h4.br.lt
    have rf := fun i => h4.br.free i
    obtain ⟨bx2, hg2⟩ := h4.br.store8 (.int .i64 0) (.string ⟨#[]⟩) (.string ⟨#[]⟩) (.int .i64 0) (.int .i64 0) (.slice none 0 0) (.bool false) (.string ⟨#[]⟩)
    have q0 := bx2.cell 0 rfl
    have q1 := bx2.cell 1 rfl
    have q2 := bx2.cell 2 rfl
    have q3 := bx2.cell 3 rfl
    have q4 := bx2.cell 4 rfl
    have q5 := bx2.cell 5 rfl
    have q6 := bx2.cell 6 rfl
    have q7 := bx2.cell 7 rfl
    have hbw2 := h4.bel.grown hg2 h4.bel.size (fun k hk => by injection hk with hk; omega)
    go_wp2_with fail
    refine bodyPost_ret (v := .tuple #[.agg #[.int .i64 0, .string ⟨#[]⟩, .string ⟨#[]⟩, .int .i64 0, .int .i64 0, .slice none 0 0, .bool false, .string ⟨#[]⟩], .int .i64 er]) (by simp [results, Tryz.results44, go_sem, q0, q1, q2, q3, q4, q5, q6, q7]) rfl ⟨?_, hbw2⟩
    rw [HB.out]
    exact retRul_bad
  subst her
  have HR5 : Hid (R = (⟨kd, x1, x2, ⟨rt, n, fl, st⟩, x4⟩, 0)) := by show _ = _; rw [HR4.out, if_neg (by simp)]
  clear HR4
  have s0 := h4.bs.cell 0 rfl
  have s1 := h4.bs.cell 1 rfl
  have s2 := h4.bs.cell 2 rfl
  have s3 := h4.bs.cell 3 rfl
  have s4 := h4.bs.cell 4 rfl
  have v0 := h4.bw.cell 0 rfl
  have v1 := h4.bw.cell 1 rfl
  have v2 := h4.bw.cell 2 rfl
  have v3 := h4.bw.cell 3 rfl
  have v4 := h4.bw.cell 4 rfl
  have sl := h4.bs.lt
  have vl := h4.bw.lt
  go_wp2_with fail
  rw [rounds_succ]
  go_wp2_with fail
  refine (rdTag x4 _ _ _ _ _ _ _ _ _ _ h4.bd).mono ?_
  rintro e W5 ⟨rfl, hd, hgr2⟩
  have h5 := h4.next hd hgr2
  have hown5 := hown.kept hgr2 (fun k hk hv => by injection hk with hk; have := (World.ownsRow.lt hown k hv).1; have := h3.bd.lt; omega)
  clear hd s0 s1 s2 s3 s4 v0 v1 v2 v3 v4 sl vl
  have s0 := h5.bs.cell 0 rfl
  have s1 := h5.bs.cell 1 rfl
  have s2 := h5.bs.cell 2 rfl
  have s3 := h5.bs.cell 3 rfl
  have s4 := h5.bs.cell 4 rfl
  have v0 := h5.bw.cell 0 rfl
  have v1 := h5.bw.cell 1 rfl
  have v2 := h5.bw.cell 2 rfl
  have v3 := h5.bw.cell 3 rfl
  have v4 := h5.bw.cell 4 rfl
  have sl := h5.bs.lt
  have vl := h5.bw.lt
  go_wp2_with fail
  rw [rounds_succ]
  have p0 := h5.bd.cell 0 rfl
  have p1 := h5.bd.cell 1 rfl
  have p2 := h5.bd.cell 2 rfl
  have p3 := h5.bd.cell 3 rfl
  have p4 := h5.bd.cell 4 rfl
  have p5 := h5.bd.cell 5 rfl
  have p6 := h5.bd.cell 6 rfl
  have p7 := h5.bd.cell 7 rfl
  have pl := h5.bd.lt
  have rl := h5.br.lt
  have rf := fun i => h5.br.free i
  have r0 := h5.br.cell 0 rfl
  have r1 := h5.br.cell 1 rfl
  have r2 := h5.br.cell 2 rfl
  have r3 := h5.br.cell 3 rfl
  have r4 := h5.br.cell 4 rfl
  have r5 := h5.br.cell 5 rfl
  have r6 := h5.br.cell 6 rfl
  have r7 := h5.br.cell 7 rfl
  obtain ⟨bx2, hg2⟩ := h5.br.store8 (.int .i64 kd) (.string x1) (.string x2) (.int .i64 rt) (.int .i64 n) (.slice A m c) (.bool st) (.string x4)
  have q0 := bx2.cell 0 rfl
  have q1 := bx2.cell 1 rfl
  have q2 := bx2.cell 2 rfl
  have q3 := bx2.cell 3 rfl
  have q4 := bx2.cell 4 rfl
  have q5 := bx2.cell 5 rfl
  have q6 := bx2.cell 6 rfl
  have q7 := bx2.cell 7 rfl
  have hbw2 := h5.bel.grown hg2 h5.bel.size (fun k hk => by injection hk with hk; omega)
  have hown6 := hown5.kept hg2 (fun k hk hv => by injection hk with hk; have := (World.ownsRow.lt hown5 k hv).1; have := h3.br.lt; omega)
  go_wp2_with fail
  refine bodyPost_ret (v := .tuple #[.agg #[.int .i64 kd, .string x1, .string x2, .int .i64 rt, .int .i64 n, .slice A m c, .bool st, .string x4], .int .i64 0]) (by simp [results, Tryz.results44, go_sem, q0, q1, q2, q3, q4, q5, q6, q7]) rfl ⟨?_, hbw2⟩
  rw [HR5.out]
  exact ⟨A, m, c, rfl, hown6.base_le' hW3⟩
end Go.Proofs.YthabojhnliomnaaGreatDoor

namespace Go.Proofs.YthabojhnliomnaaGreatDoor
open Go.RowKit
set_option linter.unusedVariables false

def wPro : List UInt8 := [112, 114, 111, 116, 111, 99, 111, 108]
def wE : List UInt8 := [101, 110, 100]
/-- Is the first word of a line 'protocol'? -/
def begP (l : List UInt8) : Bool := (spl 32 l).headD [] == wPro
theorem begins_any (s : ByteArray) (w : World) (hg : Glob w) (hs : s.size ≤ 65536) : Calls Tryz.prog 43 #[.string s] w fun e w' => e = .returned (.bool (begP (toL s))) ∧ Below w.heap.size w w' := by
  obtain ⟨x, HX, y, z, HC⟩ : ∃ x : ByteArray, Hid (begP (toL s) = (x.toList == [112, 114, 111, 116, 111, 99, 111, 108])) ∧ ∃ (y : ByteArray) (z : Bool), Hid (∀ W, Below w.heap.size w W → Calls Tryz.prog 42 #[.string s, .string ⟨#[32]⟩] W fun e w' => e = .returned (.tuple #[.string x, .string y, .bool z]) ∧ Below W.heap.size W w') := by
    cases h : spl 32 (toL s) with
    | nil => exact absurd h (spl_ne _ _)
    | cons a t =>
      cases t with
      | nil =>
        refine ⟨s, ?_, _, _, fun W hW => cut_no W (hg.mono hW) (by omega) h⟩
        show _ = _
        unfold begP wPro
        rw [h, (cut_last h).1, ByteArray.toList_eq' s]
        rfl
      | cons b r =>
        obtain ⟨t, h1, h2, h3⟩ := cut_first h
        refine ⟨bsOf a, ?_, bsOf t, true, fun W hW => cut_yes W (hg.mono hW) (by omega) h1⟩
        show _ = _
        unfold begP wPro
        rw [h, ByteArray.toList_eq' (bsOf a)]
        rfl
  rw [HX.out]
  clear HX
  go_enter Tryz.func43, Tryz.ntmps43
  go_wp2_with fail
  refine (HC.out _ (Below.refl _ _)).mono ?_
  rintro e w1 ⟨rfl, hb1⟩
  cases hq : (x.toList == [112, 114, 111, 116, 111, 99, 111, 108]) with
  | true =>
    go_wp2_with fail
    go_ret
    exact ⟨by rw [hq]; rfl, hb1⟩
  | false =>
    go_wp2_with fail
    go_ret
    exact ⟨by rw [hq]; rfl, hb1⟩
/-- The lines of a part, each with its line feed. -/
def lnT (ls : List (List UInt8)) : List UInt8 := ls.flatMap fun l => l ++ [10]
theorem glue_app {ls : List (List UInt8)} {r : List (List UInt8)} (h : r ≠ []) : glue 10 (ls ++ r) = lnT ls ++ glue 10 r := by
  induction ls with
  | nil => rfl
  | cons x l ih =>
    have : l ++ r ≠ [] := by simp [h]
    obtain ⟨y, t, e⟩ : ∃ y t, l ++ r = y :: t := by
      cases hq : l ++ r with
      | nil => exact absurd hq this
      | cons y t => exact ⟨y, t, rfl⟩
    rw [List.cons_append, e, glue, ← e, ih]
    unfold lnT
    rw [List.flatMap_cons]
    simp
/-- What cutPart hands back, at the pieces ls. -/
structure PartR (s : ByteArray) (ls : List (List UInt8)) (P : ByteArray) (n : Nat) (r : ByteArray) : Prop where
  yes : ∀ i, i + 1 < ls.length → (∀ j (h : j < ls.length), j < i → ls[j] ≠ wE) → ls[i]? = some wE → toL P = lnT (ls.take (i + 1)) ∧ n = i + 1 ∧ spl 10 (toL r) = ls.drop (i + 1)
  no : (∀ j (h : j < ls.length), j + 1 < ls.length → ls[j] ≠ wE) → P = s ∧ n = ls.length - 1 ∧ r = ⟨#[]⟩
def RetPart (s : ByteArray) (ls : List (List UInt8)) (e : Ending) : Prop := ∃ (P : ByteArray) (n : Nat) (r : ByteArray), e = .returned (.tuple #[.string P, .int .i64 n, .string r]) ∧ PartR s ls P n r ∧ P.size ≤ s.size ∧ r.size ≤ s.size ∧ n ≤ ls.length
set_option maxRecDepth 100000 in
set_option maxHeartbeats 4000000 in
theorem cutPart_any (s : ByteArray) (ls : List (List UInt8)) (w : World) (hg : Glob w) (hs : s.size ≤ 65536) (hls : Hid (spl 10 (toL s) = ls)) : Calls Tryz.prog 46 #[.string s] w fun e w' => RetPart s ls e ∧ Below w.heap.size w w' := by
  have hll : ls.length ≤ 65537 := by rw [← hls.out]; have := spl_len 10 (toL s); rw [toL_len] at this; omega
  have hl0 : 0 < ls.length := by rw [← hls.out]; exact List.length_pos_iff.2 (spl_ne _ _)
  go_enter Tryz.func46, Tryz.ntmps46
  go_wp2_with fail
  go_loopw [3, 4] (fun v3 v4 wr => ∃ (i : Nat) (r : ByteArray), v3 = .int .i64 i ∧ v4 = .string r ∧ i < ls.length ∧ r.size ≤ s.size ∧ Hid (spl 10 (toL r) = ls.drop i ∧ toL s = lnT (ls.take i) ++ toL r ∧ ∀ j (h : j < ls.length), j < i → ls[j] ≠ wE) ∧ Below w.heap.size w wr) (fun v3 _ _ => ls.length - (intOf v3).toNat)
  case atStart => exact ⟨0, s, rfl, rfl, hl0, Nat.le_refl _, ⟨hls.out, by simp [lnT], fun _ _ h => by omega⟩, Below.refl _ _⟩
  case round =>
    obtain ⟨i, r, rfl, rfl, hi, hr, HI, hbw⟩ := hrel
    by_cases hlast : i + 1 < ls.length
    · have hd : ls.drop i = ls[i] :: ls[i + 1] :: ls.drop (i + 2) := by rw [List.drop_eq_getElem_cons hi, List.drop_eq_getElem_cons hlast]
      obtain ⟨t, h1, h2, h3⟩ := cut_first (HI.out.1.trans hd)
      have HX : Hid (toL (bsOf ls[i]) = ls[i]) := rfl
      have hts : (bsOf t).size ≤ r.size := by
        rw [bsOf_size, ← toL_len, h3]
        simp
        omega
      have HN : Hid (spl 10 (toL (bsOf t)) = ls.drop (i + 1) ∧ toL s = lnT (ls.take (i + 1)) ++ toL (bsOf t)) := by
        refine ⟨?_, ?_⟩
        · show spl 10 t = _
          rw [h2, List.drop_eq_getElem_cons hlast]
        · rw [HI.out.2.1, h3, List.take_succ_eq_append_getElem hi]
          unfold lnT
          rw [List.flatMap_append]
          show _ = _ ++ t
          simp
      have HC : Hid (∀ W, Below w.heap.size w W → Calls Tryz.prog 42 #[.string r, .string ⟨#[10]⟩] W fun e w' => e = .returned (.tuple #[.string (bsOf ls[i]), .string (bsOf t), .bool true]) ∧ Below W.heap.size W w') := fun W hW => cut_yes W (hg.mono hW) (by omega) h1
      clear h1 h2 h3 hd
      generalize bsOf t = T at *
      generalize bsOf ls[i] = X at *
      go_wp2_with fail
      refine (HC.out _ hbw).mono ?_
      rintro e w1 ⟨rfl, hb1⟩
      have hbw1 := below_step hbw hb1
      by_cases hE : ls[i] = wE
      · have tE : (X.toList == [101, 110, 100]) = true := by rw [ByteArray.toList_eq' X, HX.out, hE]; rfl
        have hTs : T.size ≤ s.size := by omega
        have HSZ : Hid (s.size = (lnT (ls.take (i + 1))).length + T.size) := by show _ = _; rw [← toL_len s, HN.out.2, List.length_append, toL_len]
        have HPX : Hid (toL (s.extract 0 (s.size - T.size)) = lnT (ls.take (i + 1))) := by
          show (s.extract 0 (s.size - T.size)).data.toList = _
          rw [Lib.extract_from_zero]
          show (toL s).take _ = _
          rw [HN.out.2, HSZ.out]
          simp
        have HP : Hid (PartR s ls (s.extract 0 (s.size - T.size)) (i + 1) T) := ⟨fun j h1 h2 h3 => by
          obtain ⟨h4, h5⟩ := List.getElem?_eq_some_iff.1 h3
          have e : j = i := by
            rcases Nat.lt_trichotomy j i with h | h | h
            · exact absurd h5 (HI.out.2.2 j h4 h)
            · exact h
            · exact absurd hE (h2 i hi h)
          subst e
          exact ⟨HPX.out, rfl, HN.out.1⟩, fun h => absurd hE (h i hi hlast)⟩
        have HPS : Hid ((s.extract 0 (s.size - T.size)).size ≤ s.size) := by show _ ≤ _; rw [← toL_len, HPX.out, HSZ.out]; omega
        clear hE
        go_wp2_with fail
        go_ret3
        exact ⟨⟨_, i + 1, T, rfl, HP.out, HPS.out, hTs, by omega⟩, hbw1⟩
      · have tE : (X.toList == [101, 110, 100]) = false := by rw [ByteArray.toList_eq' X, HX.out, beq_eq_false_iff_ne]; exact hE
        have HI2 : Hid (spl 10 (toL T) = ls.drop (i + 1) ∧ toL s = lnT (ls.take (i + 1)) ++ toL T ∧ ∀ j (h : j < ls.length), j < i + 1 → ls[j] ≠ wE) := ⟨HN.out.1, HN.out.2, fun j h hj => by
          by_cases e : j = i
          · subst e; exact hE
          · exact HI.out.2.2 j h (by omega)⟩
        clear hE
        go_wp2_with fail
        go_roundw
        case rel => exact ⟨i + 1, T, by go_num, rfl, hlast, by omega, HI2, hbw1⟩
        case measure => simp [intOf]; omega
    · have hd : ls.drop i = [ls[i]] := by rw [List.drop_eq_getElem_cons hi, List.drop_eq_nil_of_le (by omega)]
      have HC : Hid (∀ W, Below w.heap.size w W → Calls Tryz.prog 42 #[.string r, .string ⟨#[10]⟩] W fun e w' => e = .returned (.tuple #[.string r, .string ⟨#[]⟩, .bool false]) ∧ Below W.heap.size W w') := fun W hW => cut_no W (hg.mono hW) (by omega) (HI.out.1.trans hd)
      clear hd
      go_wp2_with fail
      refine (HC.out _ hbw).mono ?_
      rintro e w1 ⟨rfl, hb1⟩
      have hbw1 := below_step hbw hb1
      have HP : Hid (PartR s ls s i ⟨#[]⟩) := ⟨fun j h1 h2 h3 => by
        have h4 := List.getElem?_eq_some_iff.1 h3
        exact absurd h4.2 (HI.out.2.2 j h4.1 (by omega)), fun _ => ⟨rfl, by omega, rfl⟩⟩
      go_wp2_with fail
      go_ret3
      exact ⟨⟨s, i, ⟨#[]⟩, rfl, HP.out, Nat.le_refl _, Nat.zero_le _, by omega⟩, hbw1⟩
end Go.Proofs.YthabojhnliomnaaGreatDoor
