/-
  slices.Sort, slices.Compact, slices.Clone at []string on slices that the call owns; ascending lists of strings.
  A string in its place in an ascending list, once. Plain mathematics.
  slices.Sort and slices.Compact at []int on slices that the call owns; ascending lists of numbers.
  slices.Sort and slices.Compact at []int: no other old block turns.
-/
import Derived.Sort.OwnSorted
import Derived.Lib.RowBridge
import Derived.Sort.OwnSortedInts
import Derived.Test.YtmhdambkchlilaaGreatDoorJGa
import Derived.Test.YtmhdambkchlilaaGreatDoorJShelf
namespace Go.Proofs.YtmhdambkchlilaaGreatDoor
open Go.RowKit Go.Sort
set_option linter.unusedVariables false

def toL (s : ByteArray) : List UInt8 := s.data.toList
def ofL (l : List UInt8) : ByteArray := ⟨l.toArray⟩
theorem ofL_toL (s : ByteArray) : ofL (toL s) = s := rfl
theorem toL_ofL (l : List UInt8) : toL (ofL l) = l := rfl
theorem toL_inj {a b : ByteArray} (h : toL a = toL b) : a = b := by rw [← ofL_toL a, h, ofL_toL]
/-! ### The order of strings -/
theorem ltL_trans {a b c : List UInt8} (h1 : a < b) (h2 : b < c) : a < c := List.lt_trans h1 h2
theorem ltL_irrefl (a : List UInt8) : ¬ a < a := List.lt_irrefl a
theorem leL_total (a b : List UInt8) : a ≤ b ∨ b ≤ a := List.le_total a b
theorem leL_antisymm {a b : List UInt8} (h1 : a ≤ b) (h2 : b ≤ a) : a = b := List.le_antisymm h1 h2
theorem leL_trans {a b c : List UInt8} (h1 : a ≤ b) (h2 : b ≤ c) : a ≤ c := List.le_trans h1 h2
theorem ltL_of {a b : List UInt8} (h1 : a ≤ b) (h2 : a ≠ b) : a < b := by
  rcases Classical.em (a < b) with h | h
  · exact h
  · exact absurd (leL_antisymm h1 (List.not_lt.1 h)) h2
theorem asc_extL : ∀ {l m : List (List UInt8)}, l.Pairwise (· < ·) → m.Pairwise (· < ·) → (∀ x, x ∈ l ↔ x ∈ m) → l = m
  | [], [], _, _, _ => rfl
  | [], b :: m, _, _, h => by have := (h b).2 (by simp); simp at this
  | a :: l, [], _, _, h => by have := (h a).1 (by simp); simp at this
  | a :: l, b :: m, hl, hm, h => by
    rw [List.pairwise_cons] at hl hm
    have hab : a = b := by
      have h1 := (h a).1 (by simp)
      have h2 := (h b).2 (by simp)
      simp only [List.mem_cons] at h1 h2
      rcases h1 with h1 | h1
      · exact h1
      · rcases h2 with h2 | h2
        · exact h2.symm
        · exact absurd (ltL_trans (hm.1 a h1) (hl.1 b h2)) (ltL_irrefl _)
    subst hab
    congr 1
    refine asc_extL hl.2 hm.2 fun x => ?_
    have hx := h x
    simp only [List.mem_cons] at hx
    constructor
    · intro h1
      rcases hx.1 (Or.inr h1) with h2 | h2
      · subst h2; exact absurd (hl.1 _ h1) (ltL_irrefl _)
      · exact h2
    · intro h1
      rcases hx.2 (Or.inr h1) with h2 | h2
      · subst h2; exact absurd (hm.1 _ h1) (ltL_irrefl _)
      · exact h2
theorem compactUpTo_specL (d : Array (List UInt8)) (hs : ∀ i j, i ≤ j → j < d.size → d[i]! ≤ d[j]!) : ∀ m, m ≤ d.size → (Lib.compactUpTo d m).Pairwise (· < ·) ∧ ∀ x, x ∈ Lib.compactUpTo d m ↔ ∃ j, j < m ∧ d[j]! = x
  | 0, _ => ⟨by simp [Lib.compactUpTo], fun x => by simp [Lib.compactUpTo]⟩
  | m + 1, hm => by
    obtain ⟨h1, h2⟩ := compactUpTo_specL d hs m (by omega)
    rw [Lib.compactUpTo_succ]
    by_cases hk : Lib.keeps d m = true
    · rw [if_pos hk]
      unfold Lib.keeps at hk
      have hk' := of_decide_eq_true hk
      refine ⟨?_, fun x => ?_⟩
      · rw [List.pairwise_append]
        refine ⟨h1, by simp, fun a ha b hb => ?_⟩
        simp at hb
        subst hb
        obtain ⟨j, hj, rfl⟩ := (h2 a).1 ha
        rcases hk' with h0 | hne
        · omega
        · have h3 := hs j (m - 1) (by omega) (by omega)
          have h4 := hs (m - 1) m (by omega) (by omega)
          refine ltL_of (leL_trans h3 h4) fun e => hne ?_
          rw [e] at h3
          exact leL_antisymm h3 h4
      · rw [List.mem_append, h2]
        simp only [List.mem_singleton]
        constructor
        · rintro (⟨j, hj, e⟩ | e)
          · exact ⟨j, by omega, e⟩
          · exact ⟨m, by omega, e.symm⟩
        · rintro ⟨j, hj, e⟩
          by_cases hjm : j = m
          · subst hjm; exact Or.inr e.symm
          · exact Or.inl ⟨j, by omega, e⟩
    · rw [if_neg hk, List.append_nil]
      refine ⟨h1, fun x => ?_⟩
      rw [h2]
      unfold Lib.keeps at hk
      have hk' : ¬ (m = 0 ∨ d[m]! ≠ d[m - 1]!) := fun h => hk (decide_eq_true h)
      have hk2 : d[m]! = d[m - 1]! := by
        by_cases e : d[m]! = d[m - 1]!
        · exact e
        · exact absurd (Or.inr e) hk'
      have hm0 : m ≠ 0 := fun e => hk' (Or.inl e)
      constructor
      · rintro ⟨j, hj, e⟩; exact ⟨j, by omega, e⟩
      · rintro ⟨j, hj, e⟩
        by_cases hjm : j = m
        · subst hjm; exact ⟨j - 1, by omega, hk2.symm.trans e⟩
        · exact ⟨j, by omega, e⟩
def sortS (l : List ByteArray) : List ByteArray := ((l.map toL).mergeSort fun x y => decide (x ≤ y)).map ofL
def compactS (l : List ByteArray) : List ByteArray := (Lib.compact (l.map toL)).map ofL
theorem map_toL_ofL (l : List (List UInt8)) : (l.map ofL).map toL = l := by rw [List.map_map]; exact List.map_id l
theorem map_ofL_toL (l : List ByteArray) : (l.map toL).map ofL = l := by rw [List.map_map]; exact List.map_id l
theorem sortS_len (l : List ByteArray) : (sortS l).length = l.length := by unfold sortS; rw [List.length_map, List.length_mergeSort, List.length_map]
theorem mem_map_ofL {l : List (List UInt8)} {x : ByteArray} : x ∈ l.map ofL ↔ toL x ∈ l := by
  rw [List.mem_map]
  constructor
  · rintro ⟨y, hy, rfl⟩; exact hy
  · intro h; exact ⟨_, h, rfl⟩
theorem mem_map_toL {l : List ByteArray} {x : ByteArray} : toL x ∈ l.map toL ↔ x ∈ l := by
  rw [List.mem_map]
  constructor
  · rintro ⟨y, hy, e⟩; rw [← toL_inj e]; exact hy
  · intro h; exact ⟨x, h, rfl⟩
/-- The different strings of a list, ascending. -/
def ascS (l : List ByteArray) : List ByteArray := compactS (sortS l)
def AscS (l : List ByteArray) : Prop := l.Pairwise fun a b => toL a < toL b
theorem ascS_spec (l : List ByteArray) : AscS (ascS l) ∧ ∀ x, x ∈ ascS l ↔ x ∈ l := by
  have hs : ((l.map toL).mergeSort fun x y => decide (x ≤ y)).Pairwise (· ≤ ·) := by
    have := List.pairwise_mergeSort (le := fun x y : List UInt8 => decide (x ≤ y)) (fun a b c h1 h2 => by simp at *; exact leL_trans h1 h2) (fun a b => by simp; exact leL_total a b) (l.map toL)
    exact this.imp fun h => by simpa using h
  have hm : ∀ x, x ∈ ((l.map toL).mergeSort fun x y => decide (x ≤ y)) ↔ x ∈ l.map toL := fun x => List.mem_mergeSort
  unfold ascS compactS sortS
  rw [map_toL_ofL]
  generalize ((l.map toL).mergeSort fun x y => decide (x ≤ y)) = q at *
  have h := compactUpTo_specL q.toArray (fun i j hij hj => by
    have hj' : j < q.length := by simpa using hj
    have hi' : i < q.length := by omega
    rw [getElem!_pos _ i (by simpa using hi'), getElem!_pos _ j (by simpa using hj')]
    simp only [List.getElem_toArray]
    by_cases e : i = j
    · subst e; exact List.le_refl _
    · exact List.pairwise_iff_getElem.1 hs i j hi' hj' (by omega)) q.length (by simp)
  refine ⟨?_, fun x => ?_⟩
  · unfold AscS
    rw [List.pairwise_map]
    exact h.1
  · rw [mem_map_ofL]
    unfold Lib.compact
    rw [h.2, ← mem_map_toL, ← hm]
    constructor
    · rintro ⟨j, hj, e⟩
      rw [getElem!_pos _ j (by simpa using hj)] at e
      simp only [List.getElem_toArray] at e
      rw [← e]
      exact List.getElem_mem hj
    · intro hx
      obtain ⟨j, hj, e⟩ := List.getElem_of_mem hx
      exact ⟨j, hj, by rw [getElem!_pos _ j (by simpa using hj)]; simpa using e⟩
theorem AscS.ext {l m : List ByteArray} (h1 : AscS l) (h2 : AscS m) (h : ∀ x, x ∈ l ↔ x ∈ m) : l = m := by
  rw [← map_ofL_toL l, ← map_ofL_toL m]
  congr 1
  refine asc_extL (List.pairwise_map.2 h1) (List.pairwise_map.2 h2) fun x => ?_
  have := h (ofL x)
  rw [← mem_map_toL, ← mem_map_toL, toL_ofL] at this
  exact this
theorem compactS_len (l : List ByteArray) : (compactS l).length ≤ l.length := by
  unfold compactS
  rw [List.length_map]
  exact Nat.le_trans (Lib.compact_length_le _) (by simp)
theorem ascS_len (l : List ByteArray) : (ascS l).length ≤ l.length := Nat.le_trans (compactS_len _) (by rw [sortS_len]; exact Nat.le_refl _)

/-! ### The calls -/
def cellsStr (x : ByteArray) : List Value := [.string x]
theorem cellsStr_ok : CellsOk cellsStr 1 := ⟨fun _ => rfl, fun _ u hu => by simp [cellsStr] at hu; subst hu; rfl⟩
theorem strsTy : ElemTy Tryz.prog 34 9 1 16 (.string ByteArray.empty) := ⟨Tryz.underlying34, by kernel_rfl, rfl, by omega⟩
def StrsV (w : World) (v : Value) (l : List ByteArray) : Prop := ∃ A c, v = .slice A l.length c ∧ l.length ≤ c ∧ Sl Lay.str w A l
theorem StrsV.of_own {base : Nat} {e : TypeId} {w : World} {v : Value} {l : List ByteArray} (h : Own cellsStr 1 base e w v l) : StrsV w v l := Own.sl (L := Lay.str) h rfl fun _ => rfl
theorem StrsV.mono {w w' : World} {v : Value} {l : List ByteArray} (h : StrsV w v l) (hb : Below w.heap.size w w') : StrsV w' v l := by
  obtain ⟨A, c, e, hc, hs⟩ := h
  exact ⟨A, c, e, hc, hs.mono hb⟩
theorem flatMap_cellsStr (l : List ByteArray) : l.flatMap cellsStr = (l.map toL).map encStr := by
  rw [show l.flatMap cellsStr = l.map (fun x => Value.string x) from flatMap_one (c := fun x => Value.string x) l, List.map_map]
  rfl

theorem sortStrings_own (v : Value) (l : List ByteArray) (base : Nat) (w : World) (h : Own cellsStr 1 base 9 w v l) (hl : l.length < 4611686018427387904) :
    Calls Tryz.prog 123 #[v] w fun e w' => e = .returned (.tuple #[]) ∧ Own cellsStr 1 base 9 w' v (sortS l) ∧ w.grownBy w' v.ownBlock := by
  rcases h.2 with ⟨rfl, h0⟩ | ⟨g, cap, cur, rfl, hb, hg, h1, h2, h3, h4⟩
  · have : l = [] := List.eq_nil_of_length_eq_zero h0
    subst this
    refine (Tryz.slices_Sort_string_none none 0 w).mono ?_
    rintro e w' ⟨rfl, rfl⟩
    exact ⟨rfl, by simpa [sortS] using h, World.grownBy.refl _ _⟩
  · rw [flatMap_cellsStr, Nat.mul_one] at h4
    have hq := Tryz.slices_Sort_string g 0 cap (l.map toL) w (holds_of_block hg (by rw [List.length_map]; exact h4)) (Array.getElem?_eq_some_iff.1 hg).1 (by rw [List.length_map]; exact hl)
    rw [List.length_map] at hq
    refine hq.mono ?_
    rintro e w' ⟨rfl, n, os, rfl⟩
    refine ⟨rfl, ?_, grownBy_sorted _⟩
    have := ownsRow_sorted (n := n) (os := os) (ss := l.map toL) (ts := (l.map toL).mergeSort fun x y => decide (x ≤ y)) (by rw [List.length_mergeSort]) hb hg (by rw [List.length_map]; exact h1) h2 h3
    rw [List.length_map] at this
    unfold Own
    rw [flatMap_cellsStr, sortS_len, sortS, map_toL_ofL]
    exact this
theorem compactStrings_own (v : Value) (l : List ByteArray) (base : Nat) (w : World) (h : Own cellsStr 1 base 9 w v l) (hl : l.length ≤ 9223372036854775807) :
    Calls Tryz.prog 124 #[v] w fun e w' => (∃ v', e = .returned v' ∧ Own cellsStr 1 base 9 w' v' (compactS l)) ∧ w.grownBy w' v.ownBlock := by
  rcases h.2 with ⟨rfl, h0⟩ | ⟨g, cap, cur, rfl, hb, hg, h1, h2, h3, h4⟩
  · have : l = [] := List.eq_nil_of_length_eq_zero h0
    subst this
    refine (Tryz.slices_Compact_string_empty none 0 w).mono ?_
    rintro e w' ⟨rfl, rfl⟩
    exact ⟨⟨_, rfl, h⟩, World.grownBy.refl _ _⟩
  · rw [flatMap_cellsStr, Nat.mul_one] at h4
    have hq := Tryz.slices_Compact_string g 0 cap (l.map toL) w (holds_of_block hg (by rw [List.length_map]; exact h4)) (by rw [List.length_map]; exact hl) (by rw [List.length_map]; exact h1)
    rw [List.length_map] at hq
    refine hq.mono ?_
    rintro e w' ⟨rfl, q, rfl⟩
    have hcl := Lib.compact_length_le (l.map toL)
    rw [List.length_map] at hcl
    have hgr := grownBy_sorted (w := w) (g := g) (n := q) (os := #[]) (Lib.compact (l.map toL) ++ List.replicate (l.length - (Lib.compact (l.map toL)).length) []).toArray
    rw [grow_empty] at hgr
    refine ⟨⟨_, rfl, ?_⟩, hgr⟩
    have := ownsRow_sorted (n := q) (os := #[]) (ss := l.map toL) (ts := Lib.compact (l.map toL) ++ List.replicate (l.length - (Lib.compact (l.map toL)).length) []) (by rw [List.length_append, List.length_replicate, List.length_map]; omega) hb hg (by rw [List.length_map]; exact h1) h2 h3
    rw [grow_empty, List.length_map] at this
    rcases this.2 with ⟨hn, _⟩ | ⟨g', cap', cur', hv, hb', hg', h1', h2', h3', h4'⟩
    · cases hn
    · simp only [Value.slice.injEq, Option.some.injEq, Addr.mk.injEq] at hv
      obtain ⟨⟨rfl, -, -⟩, -, rfl⟩ := hv
      have hlen : (compactS l).length = (Lib.compact (l.map toL)).length := by unfold compactS; rw [List.length_map]
      unfold Own
      rw [hlen, flatMap_cellsStr, compactS, map_toL_ofL]
      refine ⟨by simp, Or.inr ⟨g, cap, cur', rfl, hb', hg', by omega, h2', h3', ?_⟩⟩
      rw [Nat.mul_one]
      rw [Nat.mul_one] at h4'
      have e1 : cur'.toList.take (Lib.compact (l.map toL)).length = (cur'.toList.take l.length).take (Lib.compact (l.map toL)).length := by rw [List.take_take, Nat.min_eq_left hcl]
      rw [e1, h4', List.map_append, List.take_left' (by simp)]
end Go.Proofs.YtmhdambkchlilaaGreatDoor
namespace Go.Proofs.YtmhdambkchlilaaGreatDoor
set_option linter.unusedVariables false

def putS : List ByteArray → ByteArray → List ByteArray
  | [], x => [x]
  | y :: l, x => if toL y < toL x then y :: putS l x else if y = x then y :: l else x :: y :: l
theorem putS_same : ∀ {l : List ByteArray} {x : ByteArray} {k : Nat} (hk : k < l.length), (∀ i (h : i < l.length), i < k → toL l[i] < toL x) → l[k] = x → putS l x = l
  | y :: l, x, 0, hk, h1, h2 => by
    have h2' : y = x := h2
    subst h2'
    unfold putS
    rw [if_neg (ltL_irrefl _), if_pos rfl]
  | y :: l, x, k + 1, hk, h1, h2 => by
    have h0 : toL y < toL x := h1 0 (by simp) (by omega)
    unfold putS
    rw [if_pos h0, putS_same (l := l) (k := k) (by simpa using hk) (fun i h hi => by have := h1 (i + 1) (by simp; omega) (by omega); simpa using this) (by simpa using h2)]
theorem putS_new : ∀ {l : List ByteArray} {x : ByteArray} {k : Nat} (hk : k ≤ l.length), (∀ i (h : i < l.length), i < k → toL l[i] < toL x) → (∀ h : k < l.length, ¬ toL l[k] < toL x ∧ l[k] ≠ x) → putS l x = l.take k ++ [x] ++ l.drop k
  | [], x, 0, hk, h1, h2 => rfl
  | y :: l, x, 0, hk, h1, h2 => by
    have h0 : ¬ toL y < toL x ∧ y ≠ x := h2 (by simp)
    unfold putS
    rw [if_neg h0.1, if_neg h0.2]
    rfl
  | y :: l, x, k + 1, hk, h1, h2 => by
    have h0 : toL y < toL x := h1 0 (by simp) (by omega)
    unfold putS
    rw [if_pos h0, putS_new (l := l) (k := k) (by simpa using hk) (fun i h hi => by have := h1 (i + 1) (by simp; omega) (by omega); simpa using this) (fun h => by have := h2 (by simp; omega); simpa using this)]
    rfl
theorem mem_putS {x z : ByteArray} : ∀ {l : List ByteArray}, z ∈ putS l x ↔ z = x ∨ z ∈ l
  | [] => by simp [putS]
  | y :: l => by
    unfold putS
    split
    · simp only [List.mem_cons, mem_putS (l := l)]
      constructor
      · rintro (h | h | h)
        · exact Or.inr (Or.inl h)
        · exact Or.inl h
        · exact Or.inr (Or.inr h)
      · rintro (h | h | h)
        · exact Or.inr (Or.inl h)
        · exact Or.inl h
        · exact Or.inr (Or.inr h)
    · split
      · rename_i h; subst h; simp
      · simp
theorem putS_asc {x : ByteArray} : ∀ {l : List ByteArray}, AscS l → AscS (putS l x)
  | [], _ => by simp [putS, AscS]
  | y :: l, h => by
    unfold AscS at h ⊢
    rw [List.pairwise_cons] at h
    unfold putS
    split
    · rename_i hy
      rw [List.pairwise_cons]
      refine ⟨fun z hz => ?_, putS_asc h.2⟩
      rcases mem_putS.1 hz with rfl | hz
      · exact hy
      · exact h.1 z hz
    · split
      · exact List.pairwise_cons.2 h
      · rename_i h1 h2
        have hxy : toL x < toL y := ltL_of (List.not_lt.1 h1) (fun e => h2 (toL_inj e).symm)
        rw [List.pairwise_cons]
        refine ⟨fun z hz => ?_, List.pairwise_cons.2 h⟩
        rcases List.mem_cons.1 hz with rfl | hz
        · exact hxy
        · exact ltL_trans hxy (h.1 z hz)
/-- Put one after the other. -/
def putAllS (l : List ByteArray) : List ByteArray := l.foldl putS []
theorem putAllS_snoc (l : List ByteArray) (x : ByteArray) : putAllS (l ++ [x]) = putS (putAllS l) x := by unfold putAllS; rw [List.foldl_append]; rfl
theorem foldl_putS : ∀ (l m : List ByteArray), AscS m → AscS (l.foldl putS m) ∧ ∀ x, x ∈ l.foldl putS m ↔ x ∈ m ∨ x ∈ l
  | [], m, h => ⟨h, fun x => by simp⟩
  | y :: l, m, h => by
    obtain ⟨h1, h2⟩ := foldl_putS l (putS m y) (putS_asc h)
    refine ⟨h1, fun x => ?_⟩
    rw [List.foldl_cons, h2, mem_putS, List.mem_cons]
    constructor
    · rintro ((h | h) | h)
      · exact Or.inr (Or.inl h)
      · exact Or.inl h
      · exact Or.inr (Or.inr h)
    · rintro (h | h | h)
      · exact Or.inl (Or.inr h)
      · exact Or.inl (Or.inl h)
      · exact Or.inr h
theorem putAllS_eq (l : List ByteArray) : putAllS l = ascS l :=
  AscS.ext (foldl_putS l [] (by simp [AscS])).1 (ascS_spec l).1 fun x => by rw [(ascS_spec l).2]; unfold putAllS; rw [(foldl_putS l [] (by simp [AscS])).2]; simp
theorem putAllS_len (l : List ByteArray) : (putAllS l).length ≤ l.length := by rw [putAllS_eq]; exact ascS_len l
end Go.Proofs.YtmhdambkchlilaaGreatDoor
namespace Go.Proofs.YtmhdambkchlilaaGreatDoor
open Go.RowKit Go.Sort
set_option linter.unusedVariables false

/-! ### Ascending lists -/
theorem asc_ext : ∀ {l m : List Int}, l.Pairwise (· < ·) → m.Pairwise (· < ·) → (∀ x, x ∈ l ↔ x ∈ m) → l = m
  | [], [], _, _, _ => rfl
  | [], b :: m, _, _, h => by have := (h b).2 (by simp); simp at this
  | a :: l, [], _, _, h => by have := (h a).1 (by simp); simp at this
  | a :: l, b :: m, hl, hm, h => by
    rw [List.pairwise_cons] at hl hm
    have hab : a = b := by
      have h1 := (h a).1 (by simp)
      have h2 := (h b).2 (by simp)
      simp only [List.mem_cons] at h1 h2
      rcases h1 with h1 | h1
      · exact h1
      · rcases h2 with h2 | h2
        · exact h2.symm
        · have h3 := hm.1 a h1
          have h4 := hl.1 b h2
          omega
    subst hab
    congr 1
    refine asc_ext hl.2 hm.2 fun x => ?_
    have hx := h x
    simp only [List.mem_cons] at hx
    constructor
    · intro h1
      rcases hx.1 (Or.inr h1) with h2 | h2
      · have := hl.1 x h1; omega
      · exact h2
    · intro h1
      rcases hx.2 (Or.inr h1) with h2 | h2
      · have := hm.1 x h1; omega
      · exact h2

theorem compactUpTo_spec (d : Array Int) (hs : ∀ i j, i ≤ j → j < d.size → d[i]! ≤ d[j]!) : ∀ m, m ≤ d.size → (Lib.compactUpTo d m).Pairwise (· < ·) ∧ ∀ x, x ∈ Lib.compactUpTo d m ↔ ∃ j, j < m ∧ d[j]! = x
  | 0, _ => ⟨by simp [Lib.compactUpTo], fun x => by simp [Lib.compactUpTo]⟩
  | m + 1, hm => by
    obtain ⟨h1, h2⟩ := compactUpTo_spec d hs m (by omega)
    rw [Lib.compactUpTo_succ]
    by_cases hk : Lib.keeps d m = true
    · rw [if_pos hk]
      unfold Lib.keeps at hk
      have hk' := of_decide_eq_true hk
      refine ⟨?_, fun x => ?_⟩
      · rw [List.pairwise_append]
        refine ⟨h1, by simp, fun a ha b hb => ?_⟩
        simp at hb
        subst hb
        obtain ⟨j, hj, rfl⟩ := (h2 a).1 ha
        rcases hk' with h0 | hne
        · omega
        · have h3 := hs j (m - 1) (by omega) (by omega)
          have h4 := hs (m - 1) m (by omega) (by omega)
          omega
      · rw [List.mem_append, h2]
        simp only [List.mem_singleton]
        constructor
        · rintro (⟨j, hj, e⟩ | e)
          · exact ⟨j, by omega, e⟩
          · exact ⟨m, by omega, e.symm⟩
        · rintro ⟨j, hj, e⟩
          by_cases hjm : j = m
          · subst hjm; exact Or.inr e.symm
          · exact Or.inl ⟨j, by omega, e⟩
    · rw [if_neg hk, List.append_nil]
      refine ⟨h1, fun x => ?_⟩
      rw [h2]
      unfold Lib.keeps at hk
      have hk' : ¬ (m = 0 ∨ d[m]! ≠ d[m - 1]!) := fun h => hk (decide_eq_true h)
      have hk2 : d[m]! = d[m - 1]! := by
        by_cases e : d[m]! = d[m - 1]!
        · exact e
        · exact absurd (Or.inr e) hk'
      have hm0 : m ≠ 0 := fun e => hk' (Or.inl e)
      constructor
      · rintro ⟨j, hj, e⟩; exact ⟨j, by omega, e⟩
      · rintro ⟨j, hj, e⟩
        by_cases hjm : j = m
        · subst hjm; exact ⟨j - 1, by omega, hk2.symm.trans e⟩
        · exact ⟨j, by omega, e⟩

def sortI (l : List Int) : List Int := l.mergeSort fun x y => decide (x ≤ y)
theorem sortI_len (l : List Int) : (sortI l).length = l.length := List.length_mergeSort l
theorem sortI_mem (l : List Int) (x : Int) : x ∈ sortI l ↔ x ∈ l := List.mem_mergeSort
theorem sortI_sorted (l : List Int) : (sortI l).Pairwise (· ≤ ·) := by
  have := List.pairwise_mergeSort (le := fun x y : Int => decide (x ≤ y)) (fun a b c h1 h2 => by simp at *; omega) (fun a b => by simp; omega) l
  refine this.imp ?_
  intro a b h
  simpa using h
/-- The different elements of a list, ascending. -/
def ascI (l : List Int) : List Int := Lib.compact (sortI l)
theorem ascI_spec (l : List Int) : (ascI l).Pairwise (· < ·) ∧ ∀ x, x ∈ ascI l ↔ x ∈ l := by
  have hs := sortI_sorted l
  have h := compactUpTo_spec (sortI l).toArray (fun i j hij hj => by
    have hj' : j < (sortI l).length := by simpa using hj
    have hi' : i < (sortI l).length := by omega
    rw [getElem!_pos _ i (by simpa using hi'), getElem!_pos _ j (by simpa using hj')]
    simp only [List.getElem_toArray]
    by_cases e : i = j
    · subst e; exact Int.le_refl _
    · exact List.pairwise_iff_getElem.1 hs i j hi' hj' (by omega)) (sortI l).length (by simp)
  refine ⟨h.1, fun x => ?_⟩
  rw [← sortI_mem l x]
  unfold ascI Lib.compact
  rw [h.2]
  constructor
  · rintro ⟨j, hj, e⟩
    rw [getElem!_pos _ j (by simpa using hj)] at e
    simp only [List.getElem_toArray] at e
    rw [← e]
    exact List.getElem_mem hj
  · intro hx
    obtain ⟨j, hj, e⟩ := List.getElem_of_mem hx
    exact ⟨j, hj, by rw [getElem!_pos _ j (by simpa using hj)]; simpa using e⟩
theorem ascI_len (l : List Int) : (ascI l).length ≤ l.length := by
  unfold ascI
  exact Nat.le_trans (Lib.compact_length_le _) (by rw [sortI_len]; exact Nat.le_refl _)

/-! ### The calls -/
theorem flatMap_cellsInt (l : List Int) : l.flatMap cellsInt = l.map (Value.int .i64) := flatMap_one (c := fun x => Value.int .i64 x) l

end Go.Proofs.YtmhdambkchlilaaGreatDoor
namespace Go.Proofs.YtmhdambkchlilaaGreatDoor
open Go.RowKit Go.Sort
set_option linter.unusedVariables false

theorem sortInts_ownG (v : Value) (l : List Int) (base : Nat) (w : World) (h : Own cellsInt 1 base 3 w v l) (hl : l.length < 4611686018427387904) :
    Calls Tryz.prog 63 #[v] w fun e w' => e = .returned (.tuple #[]) ∧ Own cellsInt 1 base 3 w' v (sortI l) ∧ w.grownBy w' v.ownBlock := by
  rcases h.2 with ⟨rfl, h0⟩ | ⟨g, cap, cur, rfl, hb, hg, h1, h2, h3, h4⟩
  · have : l = [] := List.eq_nil_of_length_eq_zero h0
    subst this
    refine (Tryz.slices_Sort_int_none none 0 w).mono ?_
    rintro e w' ⟨rfl, rfl⟩
    exact ⟨rfl, by simpa [sortI] using h, World.grownBy.refl _ _⟩
  · rw [flatMap_cellsInt, Nat.mul_one] at h4
    refine (Tryz.slices_Sort_int g 0 cap l w (holds_of_blockI hg h4) (Array.getElem?_eq_some_iff.1 hg).1 hl).mono ?_
    rintro e w' ⟨rfl, n, os, rfl⟩
    refine ⟨rfl, ?_, grownBy_sortedI _⟩
    have := ownsRow_sortedI (n := n) (os := os) (ts := sortI l) (sortI_len l) hb hg h1 h2 h3
    unfold Own
    rw [flatMap_cellsInt, sortI_len]
    exact this

theorem compactInts_ownG (v : Value) (l : List Int) (base : Nat) (w : World) (h : Own cellsInt 1 base 3 w v l) (hl : l.length ≤ 9223372036854775807) :
    Calls Tryz.prog 64 #[v] w fun e w' => (∃ v', e = .returned v' ∧ Own cellsInt 1 base 3 w' v' (Lib.compact l)) ∧ w.grownBy w' v.ownBlock := by
  rcases h.2 with ⟨rfl, h0⟩ | ⟨g, cap, cur, rfl, hb, hg, h1, h2, h3, h4⟩
  · have : l = [] := List.eq_nil_of_length_eq_zero h0
    subst this
    refine (Tryz.slices_Compact_int_empty none 0 w).mono ?_
    rintro e w' ⟨rfl, rfl⟩
    exact ⟨⟨_, rfl, h⟩, World.grownBy.refl _ _⟩
  · rw [flatMap_cellsInt, Nat.mul_one] at h4
    refine (Tryz.slices_Compact_int g 0 cap l w (holds_of_blockI hg h4) hl h1).mono ?_
    rintro e w' ⟨rfl, q, rfl⟩
    have hcl := Lib.compact_length_le l
    have hgr := grownBy_sortedI (w := w) (g := g) (n := q) (os := #[]) (Lib.compact l ++ List.replicate (l.length - (Lib.compact l).length) 0).toArray
    rw [grow_empty] at hgr
    refine ⟨⟨_, rfl, ?_⟩, hgr⟩
    have := ownsRow_sortedI (n := q) (os := #[]) (ts := Lib.compact l ++ List.replicate (l.length - (Lib.compact l).length) 0) (by rw [List.length_append, List.length_replicate]; omega) hb hg h1 h2 h3
    rw [grow_empty] at this
    rcases this.2 with ⟨hn, _⟩ | ⟨g', cap', cur', hv, hb', hg', h1', h2', h3', h4'⟩
    · cases hn
    · simp only [Value.slice.injEq, Option.some.injEq, Addr.mk.injEq] at hv
      obtain ⟨⟨rfl, -, -⟩, -, rfl⟩ := hv
      refine ⟨by rw [flatMap_cellsInt]; simp, Or.inr ⟨g, cap, cur', rfl, hb', hg', by omega, h2', h3', ?_⟩⟩
      rw [flatMap_cellsInt, Nat.mul_one]
      rw [Nat.mul_one] at h4'
      have e1 : cur'.toList.take (Lib.compact l).length = (cur'.toList.take l.length).take (Lib.compact l).length := by rw [List.take_take, Nat.min_eq_left hcl]
      rw [e1, h4', List.map_append, List.take_left' (by simp)]
end Go.Proofs.YtmhdambkchlilaaGreatDoor
