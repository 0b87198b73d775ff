/-
  Regions whose operations may draw and lay blocks: worlds later than w in which the count of draws has not gone back. It holds no statement about the program.
-/
import Derived.Test.YthlpndgfphjlkaaLib
import Derived.Sort.Grow
namespace Go.Proofs.Ythlpndgfphjlkaa
open Go.RowKit
set_option linter.unusedVariables false

section
variable {P : Program} {ops : Array Oper} {md : Region.Mode}
/-- n quiet operations, then the others one behind the other, from any later world. -/
theorem wp_region_class_tail {P : Program} {id : Nat} {Q : Exit → Act → World → Prop} {a : Act} {w : World} {l : List Oper} {C : World → Prop} (n : Nat) (hm : P.follows .mixedOrders = true) (hB : Region.lexTailB .any l.toArray n = true) (hC : C w.drew)
    (h : wpQuiet P l.toArray C (fun a' => ∀ w', C w' → wpList P l.toArray Q (l.drop n) a' w') (l.take n) a) : (Code.region id l.toArray true).wp P Q a w := by
  simp only [Region.lexTailB, Bool.and_eq_true, decide_eq_true_eq] at hB
  obtain ⟨⟨⟨⟨hsel, hn⟩, hs⟩, hc⟩, hlex⟩ := hB
  have hn' : n < l.length := by simpa using hn
  have htl : (l.take n).length = n := by simp; omega
  have hdl : (l.drop n).length = l.toArray.size - n := by simp
  have inv0 : HeadInv .any l.toArray n (Array.replicate l.toArray.size false) :=
    ⟨by simp, fun j oj _ hl => (by rw [getD_replicate_false] at hl; cases hl), fun t _ ht => getD_in (by simpa using ht) (getD_replicate_false _ _)⟩
  have H := wpAnyT_lex (md := .any) (g := l.toArray.size - n) hsel hs hc hn (l.take n) 0 _ a (fun j hj => by
    have hj' : j < n := by rw [htl] at hj; exact hj
    simp [hj']) (by simpa using htl) inv0 (by rw [htl]; exact hlex) h
  refine wp_region_any hm ?_
  have := wpAny_of_headT (Q' := Q) (g := l.toArray.size - n) (fun listed a' w' hw' hL => by
    have := wpAny_of_seq (md := .any) (Q' := Q) (l.drop n) n listed a' w' (fun j => by simp [List.getElem?_drop]) (by rw [hdl]; exact hL.1) (hL.2 w' hw')
    rwa [hdl] at this) _ _ _ { w with drawn := w.drawn + 1 } hC H
  rw [htl, show n + (l.toArray.size - n) = l.toArray.size by omega] at this
  exact this
end

/-- A later world, with no draw taken back. -/
structure LaterD (w : World) where
  W : World
  h : Below w.heap.size w W
  d : w.drawn ≤ W.drawn
instance LaterD.some (w : World) : Nonempty (LaterD w) := ⟨⟨w, Below.refl _ _, Nat.le_refl _⟩⟩
section
variable {w : World} (x : LaterD w)
@[go_sem] theorem LaterD.cell {b o : Nat} {s : Option Nat} (h : b < w.heap.size) : x.W.cell? ⟨b, o, s⟩ = w.cell? ⟨b, o, s⟩ := x.h.cell (p := ⟨b, o, s⟩) h
@[go_sem] theorem LaterD.frozen {b o : Nat} {s : Option Nat} (h : b < w.heap.size) : x.W.frozen? ⟨b, o, s⟩ = w.frozen? ⟨b, o, s⟩ := x.h.frozen (p := ⟨b, o, s⟩) h
end
theorem Calls.laterD_same {P : Program} {f : FuncId} {args : Array Value} {w : World} {x : LaterD w} {v : Value}
    (h : Calls P f args x.W fun e w' => e = .returned v ∧ x.W = w') : Calls P f args x.W fun e w'' => e = .returned v ∧ ∃ y : LaterD w, w'' = y.W :=
  h.mono fun _ _ ⟨he, hb⟩ => ⟨he, x, hb.symm⟩
theorem wp_region_laterD_tail {P : Program} {id : Nat} {Q : Exit → Act → World → Prop} {a : Act} {w : World} {l : List Oper} (n : Nat) (hm : P.follows .mixedOrders = true) (hB : Region.lexTailB .any l.toArray n = true)
    (h : wpQuiet P l.toArray (fun w' => ∃ x : LaterD w, w' = x.W) (fun a' => ∀ w', (∃ x : LaterD w, w' = x.W) → wpList P l.toArray Q (l.drop n) a' w') (l.take n) a) : (Code.region id l.toArray true).wp P Q a w :=
  wp_region_class_tail n hm hB ⟨⟨w.drew, (Below.refl _ _).drew, Nat.le_succ _⟩, rfl⟩ h
/-- Such a world, as the sort's contracts say it. -/
theorem grow_of {w w' : World} (h : Below w.heap.size w w') (hd : w.drawn ≤ w'.drawn) : ∃ q os, w' = Sort.grow (w.drewN q) os := by
  refine ⟨w'.drawn - w.drawn, w'.heap.extract w.heap.size w'.heap.size, ?_⟩
  have e1 : w'.heap = w.heap ++ w'.heap.extract w.heap.size w'.heap.size := by
    apply Array.ext
    · have := h.size; simp; omega
    · intro i h1 h2
      rw [Array.getElem_append]
      split
      · rename_i hi
        have := h.block i hi
        rw [Array.getElem?_eq_getElem h1, Array.getElem?_eq_getElem hi] at this
        exact Option.some.inj this
      · rename_i hi
        rw [Array.getElem_extract]
        congr 1
        omega
  have e2 : w'.drawn = w.drawn + (w'.drawn - w.drawn) := by omega
  have h3 := h.os; have h4 := h.tape; have h5 := h.output
  unfold Sort.grow World.drewN
  cases w' with
  | mk heap tape drawn os output =>
    cases w with
    | mk heap' tape' drawn' os' output' =>
      simp only at *
      rw [h3, h4, h5, ← e2, ← e1]
end Go.Proofs.Ythlpndgfphjlkaa
