/-
  Chapter 39: the text of a protocol, the program's.
-/
import Derived.Test.YthabojhnliomnaaGreatDoorTxtB
namespace Go.Proofs.YthabojhnliomnaaGreatDoor
open Go.RowKit
set_option linter.unusedVariables false

theorem joinS {w : World} {b o : Nat} (c : Nat) (l : List ByteArray) (sep : ByteArray) (hs : Sl Lay.str w (some ⟨b, o, none⟩) l) (h0 : 0 < l.length) (hc : l.length ≤ c) (hl : l.length ≤ 1000) (hz : (Lib.join (l.map toL) (toL sep)).length ≤ 140737488355328) :
    Calls Tryz.prog 34 #[.slice (some ⟨b, o, none⟩) l.length c, .string sep] w fun e w' => e = .returned (.string (bsOf (Lib.join (l.map toL) (toL sep)))) ∧ Below w.heap.size w w' := by
  refine Tryz.strings_Join b o c l sep w (fun j x hj => ?_) ?_ (by omega) hc hz
  · obtain ⟨hj2, rfl⟩ := List.getElem?_eq_some_iff.1 hj
    obtain ⟨b', o', e, _, hcl⟩ := hs.str_at hj2
    injection e with e
    injection e with e1 e2
    subst e1 e2
    exact hcl
  · obtain ⟨b', o', e, hlt, _⟩ := hs.str_at h0
    injection e with e
    injection e with e1 e2
    subst e1 e2
    exact hlt
theorem joinTail_flat (sep : List UInt8) : ∀ r : List (List UInt8), Lib.joinTail sep r = r.flatMap (fun x => sep ++ x)
  | [] => rfl
  | x :: r => by
    rw [List.flatMap_cons, ← joinTail_flat sep r]
    simp [Lib.joinTail]
theorem join_end (e : List UInt8) : ∀ ls : List (List UInt8), Lib.join (ls ++ [e]) [10] = ls.flatMap (fun l => l ++ [10]) ++ e
  | [] => by simp [Lib.join_one]
  | x :: r => by
    have ih := join_end e r
    rw [List.cons_append, Lib.join_cons, List.flatMap_cons, List.append_assoc, ← ih]
    cases r with
    | nil => simp [joinTail_flat, Lib.join_one]
    | cons y r =>
      rw [List.cons_append, Lib.join_cons, joinTail_flat, joinTail_flat]
      simp
theorem join_sp {ls : List (List UInt8)} (h : 0 < ls.length) : [32] ++ Lib.join ls [32] = ls.flatMap (fun l => 32 :: l) := by
  cases ls with
  | nil => simp at h
  | cons x r =>
    rw [Lib.join_cons, joinTail_flat, List.flatMap_cons]
    simp
theorem stN_at {l : List ByteArray} {i : Int} {a : Nat} (h : i = a) (ha : a < l.length) : stN l i = l[a] := by
  unfold stN
  rw [h, Int.toNat_natCast, List.getElem?_eq_getElem ha]
  rfl
theorem flat_states_len {l : List ByteArray} (h : ∀ s ∈ l, s.size ≤ 32) (hl : l.length ≤ 16) : (l.flatMap (fun s => 32 :: toL s)).length ≤ 528 := by
  have := flat_len (fun s => 32 :: toL s) 33 l (fun s hs => by rw [List.length_cons, toL_len]; have := h s hs; omega)
  omega
theorem moveT_len {st : List ByteArray} {m : Mov} (h : ∀ s ∈ st, s.size ≤ 32) (hm : m.mth.size ≤ 32) (h1 : inSt st.length m.src) (h2 : inSt st.length m.dst) : (moveT st m).length ≤ 103 := by
  obtain ⟨a, ha⟩ : ∃ a : Nat, m.src = a := ⟨m.src.toNat, by have := h1.1; omega⟩
  obtain ⟨b, hb⟩ : ∃ b : Nat, m.dst = b := ⟨m.dst.toNat, by have := h2.1; omega⟩
  have ha2 : a < st.length := by have := h1.2; omega
  have hb2 : b < st.length := by have := h2.2; omega
  unfold moveT wMove
  rw [stN_at ha ha2, stN_at hb hb2]
  have e1 := h _ (List.getElem_mem ha2)
  have e2 := h _ (List.getElem_mem hb2)
  simp only [List.length_append, toL_len, List.length_cons, List.length_nil]
  omega
end Go.Proofs.YthabojhnliomnaaGreatDoor
