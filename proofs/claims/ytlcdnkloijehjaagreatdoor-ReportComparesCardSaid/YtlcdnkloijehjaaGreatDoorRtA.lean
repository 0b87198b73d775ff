/-
  Chapter 47: the keys of findings, and the strings of one list that are not in another (plain).
-/
import Derived.Test.YtlcdnkloijehjaaGreatDoorRepS
import Derived.Test.YtlcdnkloijehjaaGreatDoorPutS
namespace Go.Proofs.YtlcdnkloijehjaaGreatDoor
open Go.RowKit
set_option linter.unusedVariables false

def keyT (f : Fnd) : List UInt8 := dg f.kind ++ [32] ++ toL f.plc.cls ++ [46] ++ toL f.plc.mth ++ [35] ++ dg f.plc.ins ++ [32] ++ toL f.what
def keyB (f : Fnd) : ByteArray := bsOf (keyT f)
def keysS (l : List Fnd) : List ByteArray := ascS (l.map keyB)
def memB (b : List ByteArray) (x : ByteArray) : Bool := b.any fun y => y.toList == x.toList
def minS (a b : List ByteArray) : List ByteArray := a.filter fun x => !memB b x
theorem keys_snoc {l : List Fnd} {k : Nat} (h : k < l.length) : (l.take (k + 1)).map keyB = (l.take k).map keyB ++ [keyB l[k]] := by
  rw [List.take_succ_eq_append_getElem h, List.map_append]
  rfl
theorem minS_yes {a b : List ByteArray} {k : Nat} (h : k < a.length) (hm : memB b a[k] = false) : minS (a.take (k + 1)) b = minS (a.take k) b ++ [a[k]] := by
  unfold minS
  rw [List.take_succ_eq_append_getElem h, List.filter_append]
  simp [hm]
theorem minS_no {a b : List ByteArray} {k : Nat} (h : k < a.length) (hm : memB b a[k] = true) : minS (a.take (k + 1)) b = minS (a.take k) b := by
  unfold minS
  rw [List.take_succ_eq_append_getElem h, List.filter_append]
  simp [hm]
theorem minS_len (a b : List ByteArray) (k : Nat) : (minS (a.take k) b).length ≤ k := by
  unfold minS
  refine Nat.le_trans (List.length_filter_le _ _) ?_
  rw [List.length_take]
  omega
theorem mem_memB {b : List ByteArray} {x : ByteArray} (h : x ∈ b) : memB b x = true := List.any_eq_true.2 ⟨x, h, by simp⟩
theorem minS_self (a : List ByteArray) : minS a a = [] := by
  unfold minS
  rw [List.filter_eq_nil_iff]
  intro x hx
  simp [mem_memB hx]
theorem AscS.at {b : List ByteArray} (h : AscS b) {i j : Nat} (hj : j < b.length) (hij : i < j) : toL (b[i]'(by omega)) < toL b[j] := List.pairwise_iff_getElem.1 h i j (by omega) hj hij
theorem beq_bs {x y : ByteArray} : (x.toList == y.toList) = true ↔ x = y := by
  rw [beq_iff_eq, ByteArray.toList_eq, ByteArray.toList_eq]
  exact ⟨fun h => toL_inj h, fun h => by rw [h]⟩
/-- x is looked for at i: all before are less, none from i on is less. -/
theorem memB_at {b : List ByteArray} {x : ByteArray} {i : Nat} (hlo : ∀ k (hk : k < b.length), k < i → toL b[k] < toL x) (hhi : ∀ k (hk : k < b.length), i ≤ k → ¬ toL b[k] < toL x) (hasc : AscS b) (hi : i < b.length) : memB b x = (b[i].toList == x.toList) := by
  cases hb : (b[i].toList == x.toList) with
  | true => rw [← beq_bs.1 hb]; exact mem_memB (List.getElem_mem hi)
  | false =>
    rw [Bool.eq_false_iff]
    intro hm
    obtain ⟨y, hy, he⟩ := List.any_eq_true.1 hm
    obtain ⟨k, hk, rfl⟩ := List.getElem_of_mem hy
    have hx := beq_bs.1 he
    rcases Nat.lt_trichotomy k i with h | h | h
    · have := hlo k hk h
      rw [hx] at this
      exact ltL_irrefl _ this
    · subst h
      rw [he] at hb
      cases hb
    · have := hasc.at hk h
      rw [hx] at this
      exact hhi i hi (Nat.le_refl _) this
theorem memB_end {b : List ByteArray} {x : ByteArray} (hlo : ∀ k (hk : k < b.length), toL b[k] < toL x) : memB b x = false := by
  rw [Bool.eq_false_iff]
  intro hm
  obtain ⟨y, hy, he⟩ := List.any_eq_true.1 hm
  obtain ⟨k, hk, rfl⟩ := List.getElem_of_mem hy
  have hx := beq_bs.1 he
  have := hlo k hk
  rw [hx] at this
  exact ltL_irrefl _ this
theorem AscS.lo {b : List ByteArray} {x : ByteArray} {h : Nat} (hasc : AscS b) (hh : h < b.length) (hc : toL b[h] < toL x) : ∀ k (hk : k < b.length), k < h + 1 → toL b[k] < toL x := fun k hk hkh => by
  by_cases e : k = h
  · subst e; exact hc
  · exact ltL_trans (hasc.at hh (by omega)) hc
theorem AscS.hi {b : List ByteArray} {x : ByteArray} {h : Nat} (hasc : AscS b) (hh : h < b.length) (hc : ¬ toL b[h] < toL x) : ∀ k (hk : k < b.length), h ≤ k → ¬ toL b[k] < toL x := fun k hk hkh => by
  by_cases e : k = h
  · subst e; exact hc
  · exact fun h2 => hc (ltL_trans (hasc.at hk (by omega)) h2)
theorem keysS_asc (l : List Fnd) : AscS (keysS l) := (ascS_spec _).1
theorem keysS_len (l : List Fnd) : (keysS l).length ≤ l.length := by
  have := ascS_len (l.map keyB)
  rw [List.length_map] at this
  exact this
end Go.Proofs.YtlcdnkloijehjaaGreatDoor
