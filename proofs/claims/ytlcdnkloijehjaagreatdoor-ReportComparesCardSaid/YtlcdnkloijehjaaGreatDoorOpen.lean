/-
  From the reading of an argument to its layout: combinators, one for each kind of type.
-/
import Derived.Test.YtlcdnkloijehjaaGreatDoorLib
import Derived.ProofKit
import Derived.Deep.Slices
import Derived.Deep.Fields
namespace Go.Proofs.YtlcdnkloijehjaaGreatDoor
open Go.RowKit Go.ChangeShapes Go.WideShapes Go.Deep
set_option linter.unusedVariables false

/-- Whatever reads as data of type t is laid as L says, and meets 'ok'. -/
def Opens {α : Type} (P : Program) (t : TypeId) (L : Lay α) (ok : α → Prop) : Prop :=
  ∀ (H : Type) (enc : TypeId × Value → H) (w : World) (spare : Nat → Bool) (held : Bool) (fuel : Nat) (cs : List Value) (x : DataW H × List MemPlace), DataW.trod enc P w 0 spare held fuel t cs = some x → ∃ y, L.rep w y cs ∧ ok y

def I64 (n : Int) : Prop := -9223372036854775808 ≤ n ∧ n ≤ 9223372036854775807
theorem I64.of_wf {n : Int} (h : (Lit.int .i64 n).wf = true) : I64 n := by
  simpa [Lit.wf, IntKind.min, IntKind.max, IntKind.signed, IntKind.bits, I64] using h

section
variable {P : Program} {t e : TypeId}
theorem Opens.int (ht : P.underlying t = some (.int .i64)) : Opens P t Lay.int I64 := fun H enc w spare held fuel cs x h => by
  obtain ⟨n, rfl, _, hw⟩ := DataW.trod_int ht h
  exact ⟨n, rfl, I64.of_wf hw⟩
theorem Opens.bool (ht : P.underlying t = some .bool) : Opens P t Lay.bool (fun _ => True) := fun H enc w spare held fuel cs x h => by
  obtain ⟨n, rfl, _⟩ := DataW.trod_bool ht h
  exact ⟨n, rfl, trivial⟩
theorem Opens.str (ht : P.underlying t = some .string) : Opens P t Lay.str (fun s => s.size ≤ maxLen) := fun H enc w spare held fuel cs x h => by
  obtain ⟨s, rfl, _, hs⟩ := DataW.trod_string ht h
  exact ⟨s, rfl, hs⟩
theorem cell_form {w : World} {a : Addr} {v : Value} (h : w.cell? a = some v) : a = ⟨a.block, a.off, none⟩ ∧ a.block < w.heap.size := by
  unfold World.cell? at h
  split at h
  · rename_i c _ _ hh
    split at h
    · cases h
    · rename_i hs
      refine ⟨?_, (Array.getElem?_eq_some_iff.1 hh).1⟩
      cases a with
      | mk b o s => cases s with
        | none => rfl
        | some s => simp at hs
  · cases h
theorem add_form (b o n : Nat) : (⟨b, o, none⟩ : Addr).add n = ⟨b, o + n, none⟩ := by
  unfold Addr.add
  split
  · rename_i h; rw [h, Nat.add_zero]
  · rfl
theorem Opens.slice {α : Type} {L : Lay α} {ok : α → Prop} (ht : P.underlying t = some (.slice e)) (hc : P.cellsOf e = L.size) (hp : 0 < L.size) (he : Opens P e L ok) : Opens P t L.slice (fun l => l.length ≤ maxLen ∧ ∀ x ∈ l, ok x) := fun H enc w spare held fuel cs x h => by
  rcases open_slice ht h with ⟨rfl, _⟩ | ⟨a, len, cap, m, n, D, Pl, rfl, _, hl, hm, hmm, _, hi⟩
  · exact ⟨[], ⟨none, 0, rfl, Nat.le_refl _, Sl.nil⟩, by simp, by simp⟩
  · have hlm : len ≤ m := by rw [hmm]; split <;> omega
    have hy : ∀ i, i < len → ∃ y cs', L.rep w y cs' ∧ ok y ∧ cs'.length = L.size ∧ ∀ j, j < L.size → w.cell? ((a.add (i * L.size)).add j) = cs'[j]? := fun i hilt => by
      obtain ⟨cs', hcs, htr⟩ := hi i (by omega)
      rw [hc] at hcs
      obtain ⟨_, hlen, hat⟩ := World.cells?_some hcs
      obtain ⟨y, hr, hok⟩ := he H enc w spare held n cs' _ htr
      exact ⟨y, cs', hr, hok, hlen, hat⟩
    -- the list
    have hlist : ∀ k, k ≤ len → ∃ l : List α, l.length = k ∧ ∀ i x, l[i]? = some x → ∃ cs', L.rep w x cs' ∧ ok x ∧ cs'.length = L.size ∧ ∀ j, j < L.size → w.cell? ((a.add (i * L.size)).add j) = cs'[j]? := by
      intro k
      induction k with
      | zero => exact fun _ => ⟨[], rfl, fun i x hx => by simp at hx⟩
      | succ k ih =>
        intro hk
        obtain ⟨l, hll, hl2⟩ := ih (by omega)
        obtain ⟨y, cs', h1, h2, h3, h4⟩ := hy k (by omega)
        refine ⟨l ++ [y], by simp [hll], fun i x hx => ?_⟩
        rcases Nat.lt_or_ge i k with h5 | h5
        · rw [List.getElem?_append_left (by omega)] at hx
          exact hl2 i x hx
        · have h6 : i < (l ++ [y]).length := (List.getElem?_eq_some_iff.1 hx).1
          have h7 : i = k := by simp [hll] at h6; omega
          subst h7
          rw [List.getElem?_append_right (by omega), hll, Nat.sub_self] at hx
          simp at hx
          subst hx
          exact ⟨cs', h1, h2, h3, h4⟩
    obtain ⟨l, hll, hl2⟩ := hlist len (Nat.le_refl _)
    refine ⟨l, ⟨some a, cap, by rw [hll], by omega, fun i x hx => ?_⟩, by omega, fun x hx => ?_⟩
    · obtain ⟨cs', h1, _, h3, h4⟩ := hl2 i x hx
      have hi2 : i < l.length := (List.getElem?_eq_some_iff.1 hx).1
      -- the address itself
      obtain ⟨cs0, _, _, h03, h04⟩ := hl2 0 l[0] (List.getElem?_eq_getElem (by omega))
      have h0 := h04 0 hp
      rw [List.getElem?_eq_getElem (by omega)] at h0
      have e0 : (a.add (0 * L.size)).add 0 = a := by rw [Nat.zero_mul]; simp [Addr.add]
      rw [e0] at h0
      obtain ⟨ha, hlt⟩ := cell_form h0
      refine ⟨a.block, a.off, cs', by rw [← ha], hlt, h1, fun j v hj => ?_⟩
      have hj2 : j < L.size := by rw [← h3]; exact (List.getElem?_eq_some_iff.1 hj).1
      have h5 := h4 j hj2
      rw [ha, add_form, add_form] at h5
      rw [h5]
      exact hj
    · obtain ⟨i, hi2, rfl⟩ := List.getElem_of_mem hx
      exact (hl2 i l[i] (List.getElem?_eq_getElem hi2)).choose_spec.2.1
end

def Lay.unit : Lay Unit := { size := 0, rep := fun _ _ vs => vs = [], len := fun h => by rw [h]; rfl, mono := fun _ h => h }
/-- The fields from this one on. -/
def OpensF {α : Type} (P : Program) (fs : List Field) (off : Nat) (L : Lay α) (ok : α → Prop) : Prop :=
  ∀ (H : Type) (enc : TypeId × Value → H) (w : World) (spare : Nat → Bool) (held : Bool) (n : Nat) (cs : List Value), cs.length = off + L.size →
    (∀ (i : Nat) (f : Field), fs[i]? = some f → ∃ x, DataW.trod enc P w 0 spare held n f.type ((cs.drop f.offset).take (P.cellsOf f.type)) = some x) → ∃ y, L.rep w y (cs.drop off) ∧ ok y
theorem OpensF.nil {P : Program} {off : Nat} : OpensF P [] off Lay.unit (fun _ => True) := fun H enc w spare held n cs hl _ => ⟨(), by
  show cs.drop off = []
  rw [List.drop_eq_nil_iff]
  simp only [Lay.unit] at hl
  omega, trivial⟩
theorem OpensF.cons {α β : Type} {P : Program} {f : Field} {fs : List Field} {off : Nat} {L : Lay α} {M : Lay β} {ok : α → Prop} {ok' : β → Prop} (ho : f.offset = off) (hc : P.cellsOf f.type = L.size) (hL : Opens P f.type L ok) (hM : OpensF P fs (off + L.size) M ok') :
    OpensF P (f :: fs) off (L.and M) (fun x => ok x.1 ∧ ok' x.2) := fun H enc w spare held n cs hl h => by
  obtain ⟨x, hx⟩ := h 0 f rfl
  rw [ho, hc] at hx
  obtain ⟨y, hy, hok⟩ := hL H enc w spare held n _ x hx
  obtain ⟨z, hz, hok'⟩ := hM H enc w spare held n cs (by rw [hl]; show off + (L.size + M.size) = _; omega) (fun i g hg => h (i + 1) g hg)
  refine ⟨(y, z), ⟨_, _, ?_, hy, hz⟩, hok, hok'⟩
  rw [← List.drop_drop, List.take_append_drop]
theorem Opens.struct {α : Type} {P : Program} {t : TypeId} {fs : Array Field} {L : Lay α} {ok : α → Prop} (ht : P.underlying t = some (.struct fs)) (hc : P.cellsOf t = L.size) (hF : OpensF P fs.toList 0 L ok) : Opens P t L ok := fun H enc w spare held fuel cs x h => by
  obtain ⟨xs, n, _, _, hlen, hxl, hg⟩ := DataW.trod_struct ht h
  have := hF H enc w spare held n cs (by rw [hlen, hc, Nat.zero_add]) (fun i f hf => by
    have h1 := hg i f (by simpa using hf)
    have hi : i < fs.size := by
      have := (List.getElem?_eq_some_iff.1 hf).1
      simpa using this
    rw [List.getElem?_eq_getElem (by omega)] at h1
    exact ⟨_, h1⟩)
  simpa using this
/-- The same data under another name. -/
theorem Opens.turn {α β : Type} {P : Program} {t : TypeId} {L : Lay α} {M : Lay β} {ok : α → Prop} {ok' : β → Prop} (h : Opens P t L ok) (f : α → β) (hr : ∀ w x vs, L.rep w x vs → M.rep w (f x) vs) (ho : ∀ x, ok x → ok' (f x)) : Opens P t M ok' := fun H enc w spare held fuel cs x hx => by
  obtain ⟨y, h1, h2⟩ := h H enc w spare held fuel cs x hx
  exact ⟨f y, hr _ _ _ h1, ho _ h2⟩

/-- An argument that is a slice. -/
theorem Opens.arg_slice {α : Type} {P : Program} {t : TypeId} {L : Lay α} {ok : List α → Prop} (h : Opens P t L.slice ok) {H : Type} {enc : TypeId × Value → H} {w : World} {spare : Nat → Bool} {held : Bool} {v : Value} {d : DataW H} {p : List MemPlace} (hv : v.cells = #[v])
    (ht : DataW.Trod enc P w 0 spare held t v d p) : ∃ A c l, v = .slice A l.length c ∧ l.length ≤ c ∧ Sl L w A l ∧ ok l := by
  obtain ⟨fuel, hf⟩ := ht
  rw [hv] at hf
  obtain ⟨l, ⟨A, c, e, hc, hs⟩, hok⟩ := h H enc w spare held fuel _ _ hf
  have e' : v = .slice A l.length c := by simpa using e
  exact ⟨A, c, l, e', hc, hs, hok⟩
theorem trod_block {H : Type} {enc : TypeId × Value → H} {P : Program} {w : World} {base : Nat} {spare : Nat → Bool} {held : Bool} {t : TypeId} {v : Value} {d : DataW H} {p : List MemPlace} (h : DataW.Trod enc P w base spare held t v d p) : ∀ x ∈ p, x.block < w.heap.size := by
  obtain ⟨m, hm⟩ := h; exact DataW.trod_lt m _ _ _ hm
end Go.Proofs.YtlcdnkloijehjaaGreatDoor
