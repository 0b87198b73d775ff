/-
  Chapter 13: Check: the function, the instruction and the error of a unit.
  Chapter 13: what holds in a unit without an error (plain).
-/
import Derived.Test.YtmhdambkchlilaaGreatDoorJUo
namespace Go.Proofs.YtmhdambkchlilaaGreatDoor
open Go.RowKit
set_option linter.unusedVariables false

theorem mthL_at {cs : List Cls} {j q : Nat} (hj : j < cs.length) (hq : q < cs[j].methods.length) : (mthL cs)[mthN (cs.take j) + q]? = some (cs[j].name, cs[j].methods[q]) := by
  induction cs generalizing j with
  | nil => simp at hj
  | cons c r ih =>
    unfold mthL at *
    rw [List.flatMap_cons]
    cases j with
    | zero =>
      simp only [List.getElem_cons_zero] at hq ⊢
      rw [List.take_zero, mthN, Nat.zero_add, List.getElem?_append_left (by rw [List.length_map]; exact hq), List.getElem?_map, List.getElem?_eq_getElem hq]
      rfl
    | succ j =>
      simp only [List.getElem_cons_succ] at hq ⊢
      rw [List.take_succ_cons, mthN, List.getElem?_append_right (by rw [List.length_map]; omega), List.length_map]
      have := ih (j := j) (by simpa using hj) hq
      rw [← this]
      congr 1
      omega
theorem siteN_take {fs : List Fun} {k : Nat} (hk : k < fs.length) : siteN (fs.take (k + 1)) = siteN (fs.take k) + newN fs[k].code := by
  induction fs generalizing k with
  | nil => simp at hk
  | cons f r ih =>
    cases k with
    | zero => simp [siteN]
    | succ k =>
      have := ih (k := k) (by simpa using hk)
      rw [List.take_succ_cons, List.take_succ_cons, siteN, siteN, this, List.getElem_cons_succ]
      omega
theorem newN_take {code : List Ins} {i : Nat} (hi : i < code.length) : newN (code.take (i + 1)) = newN (code.take i) + if code[i].op == 6 then 1 else 0 := by
  unfold newN
  rw [List.take_succ_eq_append_getElem hi, List.countP_append, List.countP_singleton]
  cases h : (code[i].op == 6) with
  | true => have : code[i].op = 6 := by simpa using h
            simp [this]
  | false => have : code[i].op ≠ 6 := by simpa using h
             simp [this]
theorem fcF_at {u : Unt} {k : Nat} {p : ByteArray × Sg} (hk : k < u.funcs.length) (hp : (mthL u.classes)[k]? = some p) : fcF u k = fcE u.classes p.1 p.2 u.funcs[k] := by
  unfold fcF; rw [hp, List.getElem?_eq_getElem hk]
theorem fcE_fun {cs : List Cls} {cl : ByteArray} {m : Sg} {f : Fun} (h : funE cs cl m f ≠ 0) : fcE cs cl m f = (-1, funE cs cl m f) := by unfold fcE; rw [if_pos h]
theorem fcE_ins {cs : List Cls} {cl : ByteArray} {m : Sg} {f : Fun} (h : funE cs cl m f = 0) {i : Nat} (h0 : frst (insF cs f) i = 0) (hi : insF cs f i ≠ 0) (hl : i < f.code.length) : fcE cs cl m f = ((i : Int), insF cs f i) := by
  unfold fcE; rw [if_neg (by simpa using h), frstP_hit h0 hi hl]
theorem fcE_ok {cs : List Cls} {cl : ByteArray} {m : Sg} {f : Fun} (h : funE cs cl m f = 0) (h0 : frst (insF cs f) f.code.length = 0) : fcE cs cl m f = (0, 0) := by
  unfold fcE; rw [if_neg (by simpa using h), frstP_none h0]
theorem chkE_hit {u : Unt} (h : uniE u = 0) {k : Nat} (h0 : frst (fun k => (fcF u k).2) k = 0) (hk : (fcF u k).2 ≠ 0) (hl : k < u.funcs.length) : chkE u = ((k : Int), (fcF u k).1, (fcF u k).2) := by
  unfold chkE; rw [if_neg (by simpa using h), frstP_hit h0 hk hl]
theorem chkE_end {u : Unt} (h : uniE u = 0) (h0 : frst (fun k => (fcF u k).2) u.funcs.length = 0) : chkE u = if 1024 < siteN u.funcs then (-1, -1, 3) else (0, 0, 0) := by
  unfold chkE; rw [if_neg (by simpa using h), frstP_none h0]
theorem funE_code {cs : List Cls} {cl : ByteArray} {m : Sg} {f : Fun} (h : funE cs cl m f = 0) : belB cl m f = true ∧ f.vars.length ≤ 256 ∧ f.code.length ≤ 1024 ∧ (∀ i (hi : i < f.vars.length), vrE cs f.static i f.vars[i] = 0) ∧ 0 < f.code.length := by
  unfold funE at h
  split at h
  · cases h
  rename_i h1
  split at h
  · cases h
  rename_i h2
  split at h
  · rename_i h3; exact absurd h h3
  rename_i h3
  split at h
  · cases h
  rename_i h4
  refine ⟨by simpa using h1, by omega, by omega, fun i hi => ?_, by omega⟩
  rw [← vrF_at hi]
  exact frst_all (by simpa using h3) i hi
theorem uniE_parts {u : Unt} (h : uniE u = 0) : (hierE u.classes).2 = 0 ∧ u.funcs.length ≤ 256 ∧ u.funcs.length = mthN u.classes ∧ 0 ≤ u.main ∧ u.main < u.funcs.length ∧ ∃ f, u.funcs[u.main.toNat]? = some f ∧ mainB f = true := by
  unfold uniE at h
  split at h
  · rename_i h1; exact absurd h h1
  rename_i h1
  split at h
  · cases h
  rename_i h2
  split at h
  · cases h
  rename_i h3
  split at h
  · cases h
  rename_i h4
  split at h
  · rename_i f hf
    split at h
    · rename_i hm; exact ⟨by simpa using h1, by omega, by omega, by omega, by omega, f, hf, hm⟩
    · cases h
  · cases h
def tri (q : Int × Int × Int) : Ending := .returned (.tuple #[.int .i64 q.1, .int .i64 q.2.1, .int .i64 q.2.2])

end Go.Proofs.YtmhdambkchlilaaGreatDoor
namespace Go.Proofs.YtmhdambkchlilaaGreatDoor
open Go.RowKit
set_option linter.unusedVariables false

theorem identB_len {s : ByteArray} (h : identB s = true) : 0 < s.size ∧ s.size ≤ 32 := by
  unfold identB at h
  simp only [Bool.and_eq_true, decide_eq_true_eq] at h
  exact ⟨h.1.1.1.1, h.1.1.1.2⟩
theorem idxI_found {α : Type} {p : α → Bool} {l : List α} (h : 0 ≤ idxI p l) : ∃ x ∈ l, p x = true := by
  unfold idxI at h
  cases hq : l.findIdx? p with
  | none => rw [hq] at h; simp at h
  | some i =>
    obtain ⟨hi, h1, _⟩ := List.findIdx?_eq_some_iff_getElem.1 hq
    exact ⟨l[i], List.getElem_mem hi, h1⟩
theorem fnd_found {cs : List Cls} {s : ByteArray} (h : 0 ≤ fnd cs s) : ∃ c ∈ cs, c.name = s := by
  obtain ⟨c, hc, hp⟩ := idxI_found h
  exact ⟨c, hc, eqS_iff.1 hp⟩
theorem fieldL_has {cs : List Cls} {n : ByteArray} : ∀ {l : List Int}, (fieldL cs n l).2.2 = true → ∃ c ∈ cs, ∃ f ∈ c.fields, f.name = n
  | [], h => by cases h
  | j :: r, h => by
    unfold fieldL at h
    split at h
    · rename_i h0
      unfold fIdx at h0
      cases hj : cs[j.toNat]? with
      | none => rw [hj] at h0; simp at h0
      | some c =>
        rw [hj] at h0
        obtain ⟨f, hf, hp⟩ := idxI_found h0
        exact ⟨c, List.mem_of_getElem? hj, f, hf, eqS_iff.1 hp⟩
    · exact fieldL_has h
theorem lookS_has {cs : List Cls} {s m : ByteArray} {g : Sg} (h : sgAt cs (lookS cs s m) = some g) : (∃ c ∈ cs, g ∈ c.methods) ∧ g.name = m := by
  refine ⟨sgAt_mem h, ?_⟩
  rcases lookL_bd (cs := cs) (m := m) (chR_bd (fnd_bd cs s).2).1 with h1 | ⟨j, k, hj, hk, h1, _, h3⟩
  · have h2 : lookS cs s m = (-1, -1) := h1
    rw [h2] at h; cases h
  · have h2 : lookS cs s m = ((j : Int), (k : Int)) := h1
    rw [h2] at h
    unfold sgAt at h
    rw [if_neg (by show ¬ (j : Int) < 0; omega)] at h
    simp only [Int.toNat_natCast, List.getElem?_eq_getElem hj, Option.bind_some] at h
    rw [List.getElem?_eq_getElem hk] at h
    injection h with h
    subst h
    have h4 : cs[j].methods.findIdx? (isSg m) = some k := by
      unfold idxI at h3
      cases hq : cs[j].methods.findIdx? (isSg m) with
      | none => rw [hq] at h3; simp at h3
      | some i => rw [hq] at h3; have h3 : (i : Int) = k := h3; rw [show i = k by omega]
    obtain ⟨_, h5, _⟩ := List.findIdx?_eq_some_iff_getElem.1 h4
    exact eqS_iff.1 h5
theorem statS_has {cs : List Cls} {x : Ins} {g : Sg} (h : statS cs x = some g) : (∃ c ∈ cs, g ∈ c.methods) ∧ g.name = x.name ∧ 0 ≤ fnd cs x.cls ∧ g.static = true := by
  refine ⟨statS_mem h, ?_⟩
  unfold statS at h
  split at h
  · cases h
  rename_i h0
  cases hx : cs[(fnd cs x.cls).toNat]? with
  | none => rw [hx] at h; cases h
  | some c =>
    rw [hx] at h
    simp only at h
    split at h
    · cases h
    rename_i h1
    split at h
    · rename_i m hm
      split at h
      · rename_i hs
        injection h with h; subst h
        refine ⟨?_, by omega, hs⟩
        have h3 : c.methods.findIdx? (isSg x.name) = some (idxI (isSg x.name) c.methods).toNat := by
          unfold idxI at h1 ⊢
          cases hq : c.methods.findIdx? (isSg x.name) with
          | none => rw [hq] at h1; simp at h1
          | some i => simp
        obtain ⟨hi, h5, _⟩ := List.findIdx?_eq_some_iff_getElem.1 h3
        rw [List.getElem?_eq_getElem hi] at hm
        injection hm with hm
        rw [hm] at h5
        exact eqS_iff.1 h5
      · cases h
    · cases h

/-! ### The parts of a valid unit -/
structure ClsV (cs : List Cls) (i : Nat) (c : Cls) : Prop where
  name : identB c.name = true
  first : fnd cs c.name = i
  sup : c.super.toList.isEmpty = false → 0 ≤ fnd cs c.super
  fl : c.fields.length ≤ 16
  ml : c.methods.length ≤ 16
  fields : ∀ f ∈ c.fields, identB f.name = true ∧ isTy cs f.typ = true
  methods : ∀ m ∈ c.methods, identB m.name = true ∧ m.params.length ≤ 6 ∧ (∀ p ∈ m.params, isTy cs p = true) ∧ (m.result.toList.isEmpty || isTy cs m.result) = true
theorem clsV_of {cs : List Cls} {i : Nat} {c : Cls} (h : clsE cs i c = 0) : ClsV cs i c := by
  obtain ⟨⟨h1, h2⟩, h3, h4, h5, h6, h7, h8⟩ := clsE_parts h
  refine ⟨h3, h4, h5, h1, h2, fun f hf => ?_, fun m hm => ?_⟩
  · obtain ⟨k, hk, rfl⟩ := List.getElem_of_mem hf
    have := h7 k hk
    unfold fldE at this
    split at this
    · cases this
    rename_i g1
    split at this
    · cases this
    rename_i g2
    exact ⟨by simpa using g1, by simpa using g2⟩
  · obtain ⟨k, hk, rfl⟩ := List.getElem_of_mem hm
    obtain ⟨g1, _, g3, g4, g5, _⟩ := mthE_parts (h8 k hk)
    exact ⟨g1, g3, fun p hp => List.all_eq_true.1 g4 p hp, g5⟩
/-- An instruction without an error. -/
structure InsV (cs : List Cls) (f : Fun) (i : Nat) (x : Ins) : Prop where
  kind : kindBad x = false
  zero : zeroB x = true
  range : rangeB f.vars.length f.code x = true
  ctl : ctlB f.code i x = true
  typ : insT cs f.vars f.result x = 0
/-- A function without an error. -/
structure FunV (cs : List Cls) (cl : ByteArray) (m : Sg) (f : Fun) : Prop where
  bel : belB cl m f = true
  vl : f.vars.length ≤ 256
  cl0 : 0 < f.code.length
  cl1 : f.code.length ≤ 1024
  vars : ∀ i (hi : i < f.vars.length), vrE cs f.static i f.vars[i] = 0
  code : ∀ i (hi : i < f.code.length), InsV cs f i f.code[i]
/-- A unit without an error. -/
structure UntV (u : Unt) : Prop where
  hcl : u.classes.length ≤ 64
  cls : ∀ i (hi : i < u.classes.length), ClsV u.classes i u.classes[i]
  hfl : u.funcs.length ≤ 256
  hlen : u.funcs.length = mthN u.classes
  m0 : 0 ≤ u.main
  m1 : u.main < u.funcs.length
  main : ∃ f, u.funcs[u.main.toNat]? = some f ∧ mainB f = true
  fn : ∀ k (hk : k < u.funcs.length), ∃ p, (mthL u.classes)[k]? = some p ∧ FunV u.classes p.1 p.2 u.funcs[k]
  sites : siteN u.funcs ≤ 1024
theorem mthL_mem {cs : List Cls} {p : ByteArray × Sg} (h : p ∈ mthL cs) : ∃ c ∈ cs, p.1 = c.name ∧ p.2 ∈ c.methods := by
  unfold mthL at h
  obtain ⟨c, hc, hp⟩ := List.mem_flatMap.1 h
  obtain ⟨m, hm, rfl⟩ := List.mem_map.1 hp
  exact ⟨c, hc, rfl, hm⟩

/-! ### Sizes of texts in a valid unit -/
theorem UntV.clsName {u : Unt} (H : UntV u) {c : Cls} (hc : c ∈ u.classes) : identB c.name = true := by
  obtain ⟨i, hi, rfl⟩ := List.getElem_of_mem hc
  exact (H.cls i hi).name
theorem UntV.fnd {u : Unt} (H : UntV u) {s : ByteArray} (h : 0 ≤ fnd u.classes s) : identB s = true := by
  obtain ⟨c, hc, rfl⟩ := fnd_found h
  exact H.clsName hc
theorem UntV.ty {u : Unt} (H : UntV u) {s : ByteArray} (h : isTy u.classes s = true) : 0 < s.size ∧ s.size ≤ 32 := by
  unfold isTy at h
  rw [Bool.or_eq_true] at h
  rcases h with h | h
  · have : s.toList.length = 3 := by rw [beq_iff_eq] at h; rw [h]; rfl
    rw [ByteArray.toList_eq] at this
    rw [Array.length_toList] at this
    have h2 : s.data.size = s.size := rfl
    omega
  · exact identB_len (H.fnd (of_decide_eq_true h))
theorem insT_new {cs : List Cls} {vars : List Fld} {res : ByteArray} {x : Ins} (h : x.op = 6 ∨ x.op = 15) : insT cs vars res x = if fnd cs x.cls < 0 then 6 else typed (fitsB cs x.cls (tyOf vars x.dst)) := by
  rcases h with h | h <;> simp [insT, h]
theorem insT_field {cs : List Cls} {vars : List Fld} {res : ByteArray} {x : Ins} (h : x.op = 7 ∨ x.op = 8) : insT cs vars res x = fieldE cs vars x := by
  rcases h with h | h <;> simp [insT, h]
def callT (cs : List Cls) (vars : List Fld) (x : Ins) : Int := if !isClsT cs (tyOf vars x.a) || !((tyOf vars x.a).toList == x.cls.toList) then 8 else match sgAt cs (lookS cs x.cls x.name) with
    | none => 6
    | some g => if g.static then 6 else callE cs vars x g
theorem insT_call {cs : List Cls} {vars : List Fld} {res : ByteArray} {x : Ins} (h : x.op = 9) : insT cs vars res x = callT cs vars x := by
  unfold callT
  simp [insT, h] <;> rfl
def statT (cs : List Cls) (vars : List Fld) (x : Ins) : Int := match statS cs x with
    | none => 6
    | some g => callE cs vars x g
theorem insT_stat {cs : List Cls} {vars : List Fld} {res : ByteArray} {x : Ins} (h : x.op = 10) : insT cs vars res x = statT cs vars x := by
  unfold statT
  simp [insT, h] <;> rfl
theorem fieldE_ok {cs : List Cls} {vars : List Fld} {x : Ins} (h : fieldE cs vars x = 0) : isClsT cs (tyOf vars x.a) = true ∧ (fieldS cs (tyOf vars x.a) x.name).2.2 = true := by
  cases h1 : isClsT cs (tyOf vars x.a) with
  | false => rw [fieldE_no h1] at h; cases h
  | true =>
    cases h2 : (fieldS cs (tyOf vars x.a) x.name).2.2 with
    | false => rw [fieldE_un h1 h2] at h; cases h
    | true => exact ⟨rfl, rfl⟩
theorem callT_ok {cs : List Cls} {vars : List Fld} {x : Ins} (h : callT cs vars x = 0) : isClsT cs (tyOf vars x.a) = true ∧ tyOf vars x.a = x.cls ∧ ∃ g, sgAt cs (lookS cs x.cls x.name) = some g ∧ g.static = false ∧ callE cs vars x g = 0 := by
  unfold callT at h
  split at h
  · cases h
  rename_i h1
  rw [Bool.or_eq_true] at h1
  have h2 : isClsT cs (tyOf vars x.a) = true := by
    cases hq : isClsT cs (tyOf vars x.a) with
    | true => rfl
    | false => rw [hq] at h1; exact absurd (Or.inl rfl) h1
  have h3 : ((tyOf vars x.a).toList == x.cls.toList) = true := by
    cases hq : ((tyOf vars x.a).toList == x.cls.toList) with
    | true => rfl
    | false => rw [hq] at h1; exact absurd (Or.inr rfl) h1
  split at h
  · cases h
  · rename_i g hg
    split at h
    · cases h
    · rename_i hs
      exact ⟨h2, eqS_iff.1 h3, g, hg, by simpa using hs, h⟩
theorem statT_ok {cs : List Cls} {vars : List Fld} {x : Ins} (h : statT cs vars x = 0) : ∃ g, statS cs x = some g ∧ callE cs vars x g = 0 := by
  unfold statT at h
  split at h
  · cases h
  · rename_i g hg; exact ⟨g, hg, h⟩
/-- The sizes of an instruction's texts and of its operands. -/
theorem UntV.ins {u : Unt} (H : UntV u) {f : Fun} {i : Nat} {x : Ins} (hx : InsV u.classes f i x) : x.cls.size ≤ 32 ∧ x.name.size ≤ 32 ∧ x.args.length ≤ 6 := by
  have hk : knownB x.op = true := by
    cases h : knownB x.op with
    | true => rfl
    | false => have := hx.kind; unfold kindBad at this; rw [h] at this; cases this
  have hz := hx.zero
  have ht := hx.typ
  unfold zeroB at hz
  simp only [Bool.and_eq_true, Bool.or_eq_true] at hz
  obtain ⟨⟨⟨⟨_, hzc⟩, hzm⟩, hza⟩, _⟩ := hz
  have he : ∀ s : ByteArray, s.toList.isEmpty = true → s.size ≤ 32 := fun s h => by
    rw [List.isEmpty_iff] at h
    have : s.toList.length = 0 := by rw [h]; rfl
    rw [ByteArray.toList_eq, Array.length_toList] at this
    have h2 : s.data.size = s.size := rfl
    omega
  have hm : ∀ g : Sg, (∃ c ∈ u.classes, g ∈ c.methods) → g.name.size ≤ 32 ∧ g.params.length ≤ 6 := fun g ⟨c, hc, hg⟩ => by
    obtain ⟨j, hj, rfl⟩ := List.getElem_of_mem hc
    have := (H.cls j hj).methods g hg
    exact ⟨(identB_len this.1).2, this.2.1⟩
  have hca : ∀ g : Sg, callE u.classes f.vars x g = 0 → x.args.length = g.params.length := fun g h => by
    rcases Classical.em (x.args.length = g.params.length) with h1 | h1
    · exact h1
    · rw [callE_len h1] at h; cases h
  unfold knownB at hk
  simp only [Bool.and_eq_true, decide_eq_true_eq] at hk
  have hc0 : usesB x.op 99 = false → x.cls.size ≤ 32 := fun h => by rw [h] at hzc; exact he _ (by simpa using hzc)
  have hm0 : usesB x.op 109 = false → x.name.size ≤ 32 := fun h => by rw [h] at hzm; exact he _ (by simpa using hzm)
  have ha0 : usesB x.op 42 = false → x.args.length ≤ 6 := fun h => by
    rw [h] at hza
    have : ((x.args.length : Int) == 0) = true := by simpa using hza
    rw [beq_iff_eq] at this; omega
  have hop : x.op = 0 ∨ x.op = 1 ∨ x.op = 2 ∨ x.op = 3 ∨ x.op = 4 ∨ x.op = 5 ∨ x.op = 11 ∨ x.op = 12 ∨ x.op = 13 ∨ x.op = 14 ∨ x.op = 16 ∨ x.op = 6 ∨ x.op = 15 ∨ x.op = 7 ∨ x.op = 8 ∨ x.op = 9 ∨ x.op = 10 := by omega
  rcases hop with h | h | h | h | h | h | h | h | h | h | h | h | h | h | h | h | h
  iterate 11 exact ⟨hc0 (by rw [h]; rfl), hm0 (by rw [h]; rfl), ha0 (by rw [h]; rfl)⟩
  iterate 2
    refine ⟨?_, hm0 (by rw [h]; rfl), ha0 (by rw [h]; rfl)⟩
    rw [insT_new (by omega)] at ht
    split at ht
    · cases ht
    · exact (identB_len (H.fnd (by omega))).2
  iterate 2
    refine ⟨hc0 (by rw [h]; rfl), ?_, ha0 (by rw [h]; rfl)⟩
    rw [insT_field (by omega)] at ht
    obtain ⟨c, hc, g, hg, hn⟩ := fieldL_has (fieldE_ok ht).2
    obtain ⟨j, hj, rfl⟩ := List.getElem_of_mem hc
    rw [← hn]
    exact (identB_len ((H.cls j hj).fields g hg).1).2
  · rw [insT_call h] at ht
    obtain ⟨h1, h2, g, hg, _, hce⟩ := callT_ok ht
    obtain ⟨h3, h4⟩ := lookS_has hg
    obtain ⟨h5, h6⟩ := hm g h3
    rw [h2] at h1
    refine ⟨(identB_len (H.fnd ?_)).2, by rw [← h4]; exact h5, by rw [hca g hce]; exact h6⟩
    unfold isClsT at h1
    simp only [Bool.and_eq_true, decide_eq_true_eq] at h1
    exact h1.2
  · rw [insT_stat h] at ht
    obtain ⟨g, hg, hce⟩ := statT_ok ht
    obtain ⟨h3, h4, h7, _⟩ := statS_has hg
    obtain ⟨h5, h6⟩ := hm g h3
    exact ⟨(identB_len (H.fnd h7)).2, by rw [← h4]; exact h5, by rw [hca g hce]; exact h6⟩
/-- The sizes of the texts of a function. -/
theorem UntV.fun {u : Unt} (H : UntV u) {k : Nat} (hk : k < u.funcs.length) : u.funcs[k].cls.size ≤ 32 ∧ u.funcs[k].name.size ≤ 32 ∧ ∀ v ∈ u.funcs[k].vars, v.name.size ≤ 32 ∧ v.typ.size ≤ 32 := by
  obtain ⟨p, hp, hf⟩ := H.fn k hk
  obtain ⟨c, hc, h1, h2⟩ := mthL_mem (List.mem_of_getElem? hp)
  have hb := hf.bel
  rw [belB_def] at hb
  simp only [Bool.and_eq_true] at hb
  have he := hb.1.1.1.1
  unfold belEq at he
  simp only [Bool.and_eq_true] at he
  obtain ⟨j, hj, rfl⟩ := List.getElem_of_mem hc
  have hm := (H.cls j hj).methods p.2 h2
  refine ⟨by rw [eqS_iff.1 he.1, h1]; exact (identB_len (H.clsName hc)).2, by rw [eqS_iff.1 he.2.1]; exact (identB_len hm.1).2, fun v hv => ?_⟩
  obtain ⟨i, hi, rfl⟩ := List.getElem_of_mem hv
  have hv := hf.vars i hi
  rw [vrE_def] at hv
  split at hv
  · cases hv
  rename_i g1
  split at hv
  · cases hv
  rename_i g2
  have hl : ∀ (s : ByteArray) (l : List UInt8) (n : Nat), (s.toList == l) = true → l.length = n → s.size = n := fun s l n h hn => by
    rw [beq_iff_eq] at h
    have : s.toList.length = n := by rw [h, hn]
    rw [ByteArray.toList_eq, Array.length_toList] at this
    exact this
  constructor
  · generalize u.funcs[k].vars[i] = v at *
    unfold vrB1 at g1
    cases hn : varNmB v.name with
    | true =>
      unfold varNmB at hn
      split at hn
      · rename_i h; exact h.1
      · exact (identB_len hn).2
    | false =>
      rw [hn] at g1
      cases ht : (v.name.toList == [116, 104, 105, 115]) with
      | true => have := hl _ _ 4 ht rfl; omega
      | false => rw [ht] at g1; exact absurd rfl g1
  · generalize u.funcs[k].vars[i] = v at *
    unfold vrB2 at g2
    cases hn : (v.typ.toList == [105, 110, 116]) with
    | true => have := hl _ _ 3 hn rfl; omega
    | false =>
      cases ht : (v.typ.toList == [110, 117, 108, 108]) with
      | true => have := hl _ _ 4 ht rfl; omega
      | false =>
        rw [hn, ht] at g2
        have : ¬ Go.Proofs.YtmhdambkchlilaaGreatDoor.fnd u.classes v.typ < 0 := fun h => g2 (by rw [decide_eq_true h]; rfl)
        exact (identB_len (H.fnd (by omega))).2
end Go.Proofs.YtmhdambkchlilaaGreatDoor
