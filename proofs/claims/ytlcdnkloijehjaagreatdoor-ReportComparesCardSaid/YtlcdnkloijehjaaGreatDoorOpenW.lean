/-
  From the reading of an argument to its layout, with the form's own reach: combinators, one for each kind of type.
-/
import Derived.Test.YtlcdnkloijehjaaGreatDoorOpen
namespace Go.Proofs.YtlcdnkloijehjaaGreatDoor
open Go.RowKit Go.ChangeShapes Go.WideShapes Go.Deep
set_option linter.unusedVariables false

/-- Nothing in it takes more than the reach. -/
def Light {H : Type} (P : Program) (t : TypeId) (d : DataW H) : Prop := ∀ z ∈ d.weights P t, z ≤ reachBytes
/-- Whatever reads as data of type t within the reach is laid as L says, and meets 'ok'. -/
def OpensW {α : Type} (P : Program) (t : TypeId) (L : Lay α) (ok : α → Prop) : Prop :=
  ∀ (H : Type) (enc : TypeId × Value → H) (w : World) (spare : Nat → Bool) (held : Bool) (fuel : Nat) (cs : List Value) (x : DataW H × List MemPlace), DataW.trod enc P w 0 spare held fuel t cs = some x → Light P t x.1 → ∃ y, L.rep w y cs ∧ ok y
section
variable {P : Program} {t e : TypeId}
theorem Opens.light {α : Type} {L : Lay α} {ok : α → Prop} (h : Opens P t L ok) : OpensW P t L ok := fun H enc w spare held fuel cs x hx _ => h H enc w spare held fuel cs x hx
theorem OpensW.int (ht : P.underlying t = some (.int .i64)) : OpensW P t Lay.int I64 := (Opens.int ht).light
theorem OpensW.bool (ht : P.underlying t = some .bool) : OpensW P t Lay.bool (fun _ => True) := (Opens.bool ht).light
theorem OpensW.str (ht : P.underlying t = some .string) : OpensW P t Lay.str (fun s => s.size ≤ maxLen) := (Opens.str ht).light
theorem weightsAll_mem {H : Type} {e : TypeId} {d : DataW H} : ∀ {l : List (DataW H)}, d ∈ l → ∀ z ∈ d.weights P e, z ∈ DataW.weightsAll P e l
  | x :: r, hd, z, hz => by
    rw [DataW.weightsAll, List.mem_append]
    rcases List.mem_cons.1 hd with h | h
    · subst h; exact Or.inl hz
    · exact Or.inr (weightsAll_mem h z hz)
theorem weightsEach_mem {H : Type} : ∀ {ts : List TypeId} {l : List (DataW H)} {i : Nat} {t : TypeId} {d : DataW H}, ts[i]? = some t → l[i]? = some d → ∀ z ∈ d.weights P t, z ∈ DataW.weightsEach P ts l
  | [], l, i, t, d, h, _, _, _ => by simp at h
  | a :: ts, [], i, t, d, _, h, _, _ => by simp at h
  | a :: ts, x :: r, 0, t, d, h1, h2, z, hz => by
    simp at h1 h2
    subst h1; subst h2
    rw [DataW.weightsEach, List.mem_append]
    exact Or.inl hz
  | a :: ts, x :: r, i + 1, t, d, h1, h2, z, hz => by
    rw [DataW.weightsEach, List.mem_append]
    exact Or.inr (weightsEach_mem (by simpa using h1) (by simpa using h2) z hz)
theorem OpensW.slice {α : Type} {L : Lay α} {ok : α → Prop} (ht : P.underlying t = some (.slice e)) (hc : P.cellsOf e = L.size) (hp : 0 < L.size) (he : OpensW P e L ok) : OpensW P t L.slice (fun l => l.length * P.bytesOf e ≤ reachBytes ∧ l.length ≤ maxLen ∧ ∀ x ∈ l, ok x) := fun H enc w spare held fuel cs x h hlight => by
  rcases open_slice ht h with ⟨rfl, _⟩ | ⟨a, len, cap, m, n, D, Pl, rfl, _, hl, hm, hmm, hx, hi⟩
  · exact ⟨[], ⟨none, 0, rfl, Nat.le_refl _, Sl.nil⟩, by simp, by simp, by simp⟩
  · have hlm : len ≤ m := by rw [hmm]; split <;> omega
    subst hx
    have hw : (DataW.slice ((List.range len).map D) ((List.range (m - len)).map fun j => D (len + j))).weights P t = (((List.range len).map D).length + ((List.range (m - len)).map fun j => D (len + j)).length) * P.bytesOf e :: (DataW.weightsAll P e ((List.range len).map D) ++ DataW.weightsAll P e ((List.range (m - len)).map fun j => D (len + j))) := by
      rw [DataW.weights, ht]
    have hlen : len * P.bytesOf e ≤ reachBytes := by
      have h1 := hlight _ (by show _ ∈ (DataW.slice _ _).weights P t; rw [hw]; exact List.mem_cons_self ..)
      refine Nat.le_trans (Nat.mul_le_mul_right _ ?_) h1
      simp
    have hel : ∀ i, i < len → Light P e (D i) := fun i hilt z hz => by
      refine hlight z ?_
      show z ∈ (DataW.slice _ _).weights P t
      rw [hw, List.mem_cons, List.mem_append]
      exact Or.inr (Or.inl (weightsAll_mem (List.mem_map.2 ⟨i, List.mem_range.2 hilt, rfl⟩) z hz))
    have hy : ∀ i, i < len → ∃ y cs', L.rep w y cs' ∧ ok y ∧ cs'.length = L.size ∧ ∀ j, j < L.size → w.cell? ((a.add (i * L.size)).add j) = cs'[j]? := fun i hilt => by
      obtain ⟨cs', hcs, htr⟩ := hi i (by omega)
      rw [hc] at hcs
      obtain ⟨_, hlen, hat⟩ := World.cells?_some hcs
      obtain ⟨y, hr, hok⟩ := he H enc w spare held n cs' _ htr (hel i hilt)
      exact ⟨y, cs', hr, hok, hlen, hat⟩
    have hlist : ∀ k, k ≤ len → ∃ l : List α, l.length = k ∧ ∀ i x, l[i]? = some x → ∃ cs', L.rep w x cs' ∧ ok x ∧ cs'.length = L.size ∧ ∀ j, j < L.size → w.cell? ((a.add (i * L.size)).add j) = cs'[j]? := by
      intro k
      induction k with
      | zero => exact fun _ => ⟨[], rfl, fun i x hx => by simp at hx⟩
      | succ k ih =>
        intro hk
        obtain ⟨l, hll, hl2⟩ := ih (by omega)
        obtain ⟨y, cs', h1, h2, h3, h4⟩ := hy k (by omega)
        refine ⟨l ++ [y], by simp [hll], fun i x hx => ?_⟩
        rcases Nat.lt_or_ge i k with h5 | h5
        · rw [List.getElem?_append_left (by omega)] at hx
          exact hl2 i x hx
        · have h6 : i < (l ++ [y]).length := (List.getElem?_eq_some_iff.1 hx).1
          have h7 : i = k := by simp [hll] at h6; omega
          subst h7
          rw [List.getElem?_append_right (by omega), hll, Nat.sub_self] at hx
          simp at hx
          subst hx
          exact ⟨cs', h1, h2, h3, h4⟩
    obtain ⟨l, hll, hl2⟩ := hlist len (Nat.le_refl _)
    refine ⟨l, ⟨some a, cap, by rw [hll], by omega, fun i x hx => ?_⟩, by rw [hll]; exact hlen, by omega, fun x hx => ?_⟩
    · obtain ⟨cs', h1, _, h3, h4⟩ := hl2 i x hx
      have hi2 : i < l.length := (List.getElem?_eq_some_iff.1 hx).1
      obtain ⟨cs0, _, _, h03, h04⟩ := hl2 0 l[0] (List.getElem?_eq_getElem (by omega))
      have h0 := h04 0 hp
      rw [List.getElem?_eq_getElem (by omega)] at h0
      have e0 : (a.add (0 * L.size)).add 0 = a := by rw [Nat.zero_mul]; simp [Addr.add]
      rw [e0] at h0
      obtain ⟨ha, hlt⟩ := cell_form h0
      refine ⟨a.block, a.off, cs', by rw [← ha], hlt, h1, fun j v hj => ?_⟩
      have hj2 : j < L.size := by rw [← h3]; exact (List.getElem?_eq_some_iff.1 hj).1
      have h5 := h4 j hj2
      rw [ha, add_form, add_form] at h5
      rw [h5]
      exact hj
    · obtain ⟨i, hi2, rfl⟩ := List.getElem_of_mem hx
      exact (hl2 i l[i] (List.getElem?_eq_getElem hi2)).choose_spec.2.1
end
/-- The fields from this one on. -/
def OpensFW {α : Type} (P : Program) (fs : List Field) (off : Nat) (L : Lay α) (ok : α → Prop) : Prop :=
  ∀ (H : Type) (enc : TypeId × Value → H) (w : World) (spare : Nat → Bool) (held : Bool) (n : Nat) (cs : List Value), cs.length = off + L.size →
    (∀ (i : Nat) (f : Field), fs[i]? = some f → ∃ x, DataW.trod enc P w 0 spare held n f.type ((cs.drop f.offset).take (P.cellsOf f.type)) = some x ∧ Light P f.type x.1) → ∃ y, L.rep w y (cs.drop off) ∧ ok y
theorem OpensFW.nil {P : Program} {off : Nat} : OpensFW P [] off Lay.unit (fun _ => True) := fun H enc w spare held n cs hl _ => ⟨(), by
  show cs.drop off = []
  rw [List.drop_eq_nil_iff]
  simp only [Lay.unit] at hl
  omega, trivial⟩
theorem OpensFW.cons {α β : Type} {P : Program} {f : Field} {fs : List Field} {off : Nat} {L : Lay α} {M : Lay β} {ok : α → Prop} {ok' : β → Prop} (ho : f.offset = off) (hc : P.cellsOf f.type = L.size) (hL : OpensW P f.type L ok) (hM : OpensFW P fs (off + L.size) M ok') :
    OpensFW P (f :: fs) off (L.and M) (fun x => ok x.1 ∧ ok' x.2) := fun H enc w spare held n cs hl h => by
  obtain ⟨x, hx, hxl⟩ := h 0 f rfl
  rw [ho, hc] at hx
  obtain ⟨y, hy, hok⟩ := hL H enc w spare held n _ x hx hxl
  obtain ⟨z, hz, hok'⟩ := hM H enc w spare held n cs (by rw [hl]; show off + (L.size + M.size) = _; omega) (fun i g hg => h (i + 1) g hg)
  refine ⟨(y, z), ⟨_, _, ?_, hy, hz⟩, hok, hok'⟩
  rw [← List.drop_drop, List.take_append_drop]
theorem OpensW.struct {α : Type} {P : Program} {t : TypeId} {fs : Array Field} {L : Lay α} {ok : α → Prop} (ht : P.underlying t = some (.struct fs)) (hc : P.cellsOf t = L.size) (hF : OpensFW P fs.toList 0 L ok) : OpensW P t L ok := fun H enc w spare held fuel cs x h hlight => by
  obtain ⟨xs, n, _, hx, hlen, hxl, hg⟩ := DataW.trod_struct ht h
  subst hx
  have hw : (DataW.agg (xs.map (·.1))).weights P t = DataW.weightsEach P (fs.toList.map (·.type)) (xs.map (·.1)) := by rw [DataW.weights, ht]
  have := hF H enc w spare held n cs (by rw [hlen, hc, Nat.zero_add]) (fun i f hf => by
    have h1 := hg i f (by simpa using hf)
    have hi : i < fs.size := by
      have := (List.getElem?_eq_some_iff.1 hf).1
      simpa using this
    rw [List.getElem?_eq_getElem (by omega)] at h1
    refine ⟨_, h1, fun z hz => hlight z ?_⟩
    show z ∈ (DataW.agg _).weights P t
    rw [hw]
    refine weightsEach_mem (i := i) (t := f.type) (d := (xs[i]'(by omega)).1) ?_ ?_ z hz
    · rw [List.getElem?_map, hf]; rfl
    · rw [List.getElem?_map, List.getElem?_eq_getElem (by omega)]; rfl)
  simpa using this
theorem OpensW.turn {α β : Type} {P : Program} {t : TypeId} {L : Lay α} {M : Lay β} {ok : α → Prop} {ok' : β → Prop} (h : OpensW P t L ok) (f : α → β) (hr : ∀ w x vs, L.rep w x vs → M.rep w (f x) vs) (ho : ∀ x, ok x → ok' (f x)) : OpensW P t M ok' := fun H enc w spare held fuel cs x hx hl => by
  obtain ⟨y, h1, h2⟩ := h H enc w spare held fuel cs x hx hl
  exact ⟨f y, hr _ _ _ h1, ho _ h2⟩
/-- An argument that is a struct. -/
theorem OpensW.arg {α : Type} {P : Program} {t : TypeId} {L : Lay α} {ok : α → Prop} (h : OpensW P t L ok) {H : Type} {enc : TypeId × Value → H} {w : World} {spare : Nat → Bool} {held : Bool} {v : Value} {d : DataW H} {p : List MemPlace}
    (ht : DataW.Trod enc P w 0 spare held t v d p) (hl : Light P t d) : ∃ y, L.rep w y v.cells.toList ∧ ok y := by
  obtain ⟨fuel, hf⟩ := ht
  exact h H enc w spare held fuel _ _ hf hl
end Go.Proofs.YtlcdnkloijehjaaGreatDoor
