/-
  Chapter 10: the error of a hierarchy and its index, as a plain function.
  Chapter 10: plain laws for the answer's check of a hierarchy.
  Chapter 10: isType, slices.Equal, overrides, the check of a field: what they return.
-/
import Derived.Test.YtmhdambkchlilaaGreatDoorJGh
import Derived.Test.YtmhdambkchlilaaGreatDoorJLexB
namespace Go.Proofs.YtmhdambkchlilaaGreatDoor
open Go.RowKit
set_option linter.unusedVariables false

/-- The first of f 0, .., f (n - 1) that is not zero. -/
def frst (f : Nat → Int) : Nat → Int
  | 0 => 0
  | k + 1 => if frst f k ≠ 0 then frst f k else f k
theorem frst_pass {f : Nat → Int} {k : Nat} (h : frst f k = 0) (hk : f k = 0) : frst f (k + 1) = 0 := by
  rw [frst, if_neg (by simpa using h), hk]
theorem frst_hit {f : Nat → Int} {k n : Nat} (h : frst f k = 0) (hk : f k ≠ 0) (hn : k < n) : frst f n = f k := by
  induction n with
  | zero => omega
  | succ n ih =>
    by_cases e : k = n
    · subst e; rw [frst, if_neg (by simpa using h)]
    · have := ih (by omega)
      rw [frst, if_pos (by rw [this]; exact hk), this]
theorem frst_all {f : Nat → Int} {k : Nat} (h : frst f k = 0) : ∀ j, j < k → f j = 0 := by
  induction k with
  | zero => intro j hj; omega
  | succ k ih =>
    rw [frst] at h
    split at h
    · rename_i hn; exact absurd h hn
    · rename_i hn
      have h0 : frst f k = 0 := by simpa using hn
      intro j hj
      by_cases e : j = k
      · subst e; exact h
      · exact ih h0 j (by omega)
/-- The first place with an error. -/
def frstP (f : Nat → Int) (n : Nat) : Option Nat := (List.range n).find? (fun k => decide (f k ≠ 0))
theorem frstP_hit {f : Nat → Int} {k n : Nat} (h : frst f k = 0) (hk : f k ≠ 0) (hn : k < n) : frstP f n = some k := by
  unfold frstP
  rw [List.find?_range_eq_some]
  exact ⟨by simpa using hk, by simpa using hn, fun j hj => by simpa using frst_all h j hj⟩
theorem frstP_none {f : Nat → Int} {n : Nat} (h : frst f n = 0) : frstP f n = none := by
  unfold frstP
  rw [List.find?_range_eq_none]
  exact fun j hj => by simpa using frst_all h j hj

/-- Whether a text is a type. -/
def isTy (cs : List Cls) (s : ByteArray) : Bool := s.toList == [105, 110, 116] || decide (0 ≤ fnd cs s)
/-- Whether a method may override another one. -/
def overB (m o : Sg) : Bool := !m.static && !o.static && decide (m.result = o.result) && decide (m.params = o.params)
def mths (cs : List Cls) (j : Int) : List Sg := match cs[j.toNat]? with
  | some x => x.methods
  | none => []
theorem mths_nat {cs : List Cls} {j : Nat} (hj : j < cs.length) : mths cs j = cs[j].methods := by unfold mths; rw [Int.toNat_natCast, List.getElem?_eq_getElem hj]
theorem okStr_le {s : ByteArray} (h : okStr s) : s.size ≤ 9223372036854775807 := h
def StrOk (cs : List Cls) : Prop := ∀ x ∈ cs, (okStr x.name ∧ okStr x.super) ∧ (∀ f ∈ x.fields, okStr f.name ∧ okStr f.typ) ∧ ∀ m ∈ x.methods, okStr m.name ∧ okStr m.result ∧ ∀ p ∈ m.params, okStr p
theorem StrOk.names {cs : List Cls} (h : StrOk cs) : Hid (NamesOk cs) := fun x hx => (h x hx).1

/-- The error of the field k of a class; T is its chain without itself. -/
def fldE (cs : List Cls) (fs : List Fld) (T : List Int) (k : Nat) (f : Fld) : Int :=
  if !identB f.name then 5 else if !isTy cs f.typ then 8 else if idxI (isFld f.name) fs < k then 7 else if T.any (fun j => decide (0 ≤ fIdx cs f.name j)) then 7 else 0
/-- Whether a method contradicts one of the same name further up. -/
def clashB (cs : List Cls) (T : List Int) (m : Sg) : Bool := T.any fun j => (mths cs j).any fun o => o.name.toList == m.name.toList && !overB m o
def mthE (cs : List Cls) (ms : List Sg) (T : List Int) (k : Nat) (m : Sg) : Int :=
  if !identB m.name then 5 else if idxI (isSg m.name) ms < k then 7 else if 6 < m.params.length then 3 else if !m.params.all (isTy cs) then 8 else if !(m.result.toList.isEmpty || isTy cs m.result) then 8 else if clashB cs T m then 11 else 0
def fldF (cs : List Cls) (c : Cls) (T : List Int) (k : Nat) : Int := match c.fields[k]? with
  | some f => fldE cs c.fields T k f
  | none => 0
theorem fldF_at {cs : List Cls} {c : Cls} {T : List Int} {k : Nat} (h : k < c.fields.length) : fldF cs c T k = fldE cs c.fields T k c.fields[k] := by unfold fldF; rw [List.getElem?_eq_getElem h]
def mthF (cs : List Cls) (c : Cls) (T : List Int) (k : Nat) : Int := match c.methods[k]? with
  | some m => mthE cs c.methods T k m
  | none => 0
theorem mthF_at {cs : List Cls} {c : Cls} {T : List Int} {k : Nat} (h : k < c.methods.length) : mthF cs c T k = mthE cs c.methods T k c.methods[k] := by unfold mthF; rw [List.getElem?_eq_getElem h]
/-- The error of the class i. -/
def clsE (cs : List Cls) (i : Nat) (c : Cls) : Int :=
  if !identB c.name then 5 else if fnd cs c.name ≠ i then 7 else if c.super.toList.isEmpty = false ∧ fnd cs c.super < 0 then 6 else if (chR cs i).2 then 10 else if 16 < c.fields.length ∨ 16 < c.methods.length then 3
  else if frst (fldF cs c (chR cs i).1.tail) c.fields.length ≠ 0 then frst (fldF cs c (chR cs i).1.tail) c.fields.length else frst (mthF cs c (chR cs i).1.tail) c.methods.length
def clsF (cs : List Cls) (i : Nat) : Int := match cs[i]? with
  | some c => clsE cs i c
  | none => 0
theorem clsF_at {cs : List Cls} {i : Nat} (h : i < cs.length) : clsF cs i = clsE cs i cs[i] := by unfold clsF; rw [List.getElem?_eq_getElem h]
/-- The index and the error of a hierarchy. -/
def hierE (cs : List Cls) : Int × Int := if 64 < cs.length then (-1, 3) else match frstP (clsF cs) cs.length with
  | some k => ((k : Int), clsF cs k)
  | none => (0, 0)
theorem hierE_hit {cs : List Cls} (hl : ¬ 64 < cs.length) {k : Nat} (h : frst (clsF cs) k = 0) (hk : clsF cs k ≠ 0) (hn : k < cs.length) : hierE cs = ((k : Int), clsF cs k) := by
  unfold hierE; rw [if_neg hl, frstP_hit h hk hn]
theorem hierE_ok {cs : List Cls} (hl : ¬ 64 < cs.length) (h : frst (clsF cs) cs.length = 0) : hierE cs = (0, 0) := by
  unfold hierE; rw [if_neg hl, frstP_none h]
theorem chGo_pre {nx : Nat → Int} : ∀ (f : Nat) (i : Int) (l : List Int), ∃ T, (chGo nx f i l).1 = l ++ T
  | 0, i, l => ⟨[], by simp [chGo]⟩
  | f + 1, i, l => by
    by_cases h : 0 ≤ i ∧ i ∉ l
    · rw [chGo_step h]
      obtain ⟨T, hT⟩ := chGo_pre (nx := nx) f (nx i.toNat) (l ++ [i])
      exact ⟨i :: T, by rw [hT]; simp⟩
    · rw [chGo_stop h]; exact ⟨[], by simp⟩
end Go.Proofs.YtmhdambkchlilaaGreatDoor
namespace Go.Proofs.YtmhdambkchlilaaGreatDoor
open Go.RowKit
set_option linter.unusedVariables false

theorem chGo_shift {nx : Nat → Int} : ∀ (f g : Nat) (i x : Int) (l : List Int), f ≤ g → (chGo nx f i (x :: l)).2 = false → ∃ L, (chGo nx f i (x :: l)).1 = x :: L ∧ chGo nx g i l = (L, false)
  | 0, g, i, x, l, _, h => by
    unfold chGo at h
    have h0 : ¬ 0 ≤ i := by simpa using h
    refine ⟨l, rfl, ?_⟩
    rw [chGo_stop (fun hh => h0 hh.1), decide_eq_false h0]
  | f + 1, g, i, x, l, hg, h => by
    by_cases hc : 0 ≤ i ∧ i ∉ x :: l
    · obtain ⟨g', rfl⟩ : ∃ g', g = g' + 1 := ⟨g - 1, by omega⟩
      have hc2 : 0 ≤ i ∧ i ∉ l := ⟨hc.1, fun hh => hc.2 (by simp [hh])⟩
      rw [chGo_step hc] at h ⊢
      rw [chGo_step hc2]
      exact chGo_shift f g' _ x (l ++ [i]) (by omega) h
    · rw [chGo_stop hc] at h ⊢
      have h0 : ¬ 0 ≤ i := by simpa using h
      refine ⟨l, rfl, ?_⟩
      rw [chGo_stop (fun hh => h0 hh.1), decide_eq_false h0]
theorem chR_up {cs : List Cls} {i : Nat} (hi : i < cs.length) (h : (chR cs i).2 = false) : (chR cs i).1.tail = (chR cs (supI cs i)).1 := by
  unfold chR at h ⊢
  obtain ⟨n, hn⟩ : ∃ n, cs.length = n + 1 := ⟨cs.length - 1, by omega⟩
  rw [hn] at h ⊢
  have hc : 0 ≤ (i : Int) ∧ (i : Int) ∉ ([] : List Int) := ⟨by omega, by simp⟩
  rw [chGo_step hc, Int.toNat_natCast, List.nil_append] at h ⊢
  obtain ⟨L, h1, h2⟩ := chGo_shift (nx := supI cs) n (n + 1) (supI cs i) i [] (by omega) h
  rw [h1, h2]
  rfl
theorem chR_neg (cs : List Cls) : (chR cs (-1)).1 = [] := by
  unfold chR
  rw [chGo_stop (by omega)]
theorem fieldL_any (cs : List Cls) (n : ByteArray) : ∀ l, (fieldL cs n l).2.2 = l.any fun j => decide (0 ≤ fIdx cs n j)
  | [] => rfl
  | j :: r => by
    rw [fieldL, List.any_cons]
    by_cases h : 0 ≤ fIdx cs n j
    · rw [if_pos h, decide_eq_true h]; rfl
    · rw [if_neg h, decide_eq_false h, Bool.false_or]; exact fieldL_any cs n r
theorem field_up {cs : List Cls} {i : Nat} (hi : i < cs.length) (h : (chR cs i).2 = false) (n : ByteArray) : ((chR cs i).1.tail.any fun j => decide (0 ≤ fIdx cs n j)) = ((fieldS cs cs[i].super n).2.2 && !cs[i].super.toList.isEmpty) := by
  rw [chR_up hi h, supI_at hi]
  cases hq : cs[i].super.toList.isEmpty with
  | true => rw [if_pos rfl, chR_neg]; simp
  | false => rw [if_neg (by simp), ← fieldL_any]; simp [fieldS]
/-- A name stands earlier. -/
theorem idx_early {α : Type} {p : α → Bool} {l : List α} {j k : Nat} (hj : j < l.length) (hk : k < j) (h : p (l[k]'(by omega)) = true) : idxI p l < j := by
  unfold idxI
  cases hq : l.findIdx? p with
  | none => show (-1 : Int) < j; omega
  | some i =>
    have h1 := (List.findIdx?_eq_some_iff_getElem.1 hq).2.2 
    show (i : Int) < j
    by_cases hlt : i < j
    · omega
    · exact absurd h (by simpa using h1 k (by omega))
theorem idx_first {α : Type} {p : α → Bool} {l : List α} {j : Nat} (hj : j < l.length) (h : ∀ i (hi : i < j), p (l[i]'(by omega)) = false) (hp : p l[j] = true) : ¬ idxI p l < j := by
  rw [idxI_at hj (fun i hi => h i hi) hp]
  omega
theorem clashB_at {cs : List Cls} {T : List Int} {m : Sg} {i : Nat} (hi : i < T.length) {j : Nat} (hj : T[i] = j) (hjl : j < cs.length) {k : Nat} (hk : k < cs[j].methods.length) (h : (cs[j].methods[k].name.toList == m.name.toList && !overB m cs[j].methods[k]) = true) : clashB cs T m = true := by
  unfold clashB
  rw [List.any_eq_true]
  refine ⟨T[i], List.getElem_mem hi, ?_⟩
  rw [hj, mths_nat hjl, List.any_eq_true]
  exact ⟨_, List.getElem_mem hk, h⟩
theorem clashB_none {cs : List Cls} {T : List Int} {m : Sg} (h : ∀ i (hi : i < T.length), ((mths cs T[i]).any fun o => o.name.toList == m.name.toList && !overB m o) = false) : clashB cs T m = false := by
  unfold clashB
  rw [List.any_eq_false]
  intro j hj
  obtain ⟨i, hi, rfl⟩ := List.getElem_of_mem hj
  rw [h i hi]
  simp
end Go.Proofs.YtmhdambkchlilaaGreatDoor
namespace Go.Proofs.YtmhdambkchlilaaGreatDoor
open Go.RowKit
set_option linter.unusedVariables false

end Go.Proofs.YtmhdambkchlilaaGreatDoor
