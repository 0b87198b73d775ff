/-
  Chapter 13: what holds in a unit without an error (plain).
  Chapter 13: the package variables, numbers in decimal, cutting and splitting.
  Chapter 13: the lines of a unit's text (plain).
-/
import Derived.Test.YticpeombillmeaaGreatDoorJUchS
import Derived.Test.YticpeombillmeaaGreatDoorJGb
namespace Go.Proofs.YticpeombillmeaaGreatDoor
open Go.RowKit
set_option linter.unusedVariables false

theorem identB_len {s : ByteArray} (h : identB s = true) : 0 < s.size ∧ s.size ≤ 32 := by
  unfold identB at h
  simp only [Bool.and_eq_true, decide_eq_true_eq] at h
  exact ⟨h.1.1.1.1, h.1.1.1.2⟩
theorem idxI_found {α : Type} {p : α → Bool} {l : List α} (h : 0 ≤ idxI p l) : ∃ x ∈ l, p x = true := by
  unfold idxI at h
  cases hq : l.findIdx? p with
  | none => rw [hq] at h; simp at h
  | some i =>
    obtain ⟨hi, h1, _⟩ := List.findIdx?_eq_some_iff_getElem.1 hq
    exact ⟨l[i], List.getElem_mem hi, h1⟩
theorem fnd_found {cs : List Cls} {s : ByteArray} (h : 0 ≤ fnd cs s) : ∃ c ∈ cs, c.name = s := by
  obtain ⟨c, hc, hp⟩ := idxI_found h
  exact ⟨c, hc, eqS_iff.1 hp⟩
theorem fieldL_has {cs : List Cls} {n : ByteArray} : ∀ {l : List Int}, (fieldL cs n l).2.2 = true → ∃ c ∈ cs, ∃ f ∈ c.fields, f.name = n
  | [], h => by cases h
  | j :: r, h => by
    unfold fieldL at h
    split at h
    · rename_i h0
      unfold fIdx at h0
      cases hj : cs[j.toNat]? with
      | none => rw [hj] at h0; simp at h0
      | some c =>
        rw [hj] at h0
        obtain ⟨f, hf, hp⟩ := idxI_found h0
        exact ⟨c, List.mem_of_getElem? hj, f, hf, eqS_iff.1 hp⟩
    · exact fieldL_has h
theorem lookS_has {cs : List Cls} {s m : ByteArray} {g : Sg} (h : sgAt cs (lookS cs s m) = some g) : (∃ c ∈ cs, g ∈ c.methods) ∧ g.name = m := by
  refine ⟨sgAt_mem h, ?_⟩
  rcases lookL_bd (cs := cs) (m := m) (chR_bd (fnd_bd cs s).2).1 with h1 | ⟨j, k, hj, hk, h1, _, h3⟩
  · have h2 : lookS cs s m = (-1, -1) := h1
    rw [h2] at h; cases h
  · have h2 : lookS cs s m = ((j : Int), (k : Int)) := h1
    rw [h2] at h
    unfold sgAt at h
    rw [if_neg (by show ¬ (j : Int) < 0; omega)] at h
    simp only [Int.toNat_natCast, List.getElem?_eq_getElem hj, Option.bind_some] at h
    rw [List.getElem?_eq_getElem hk] at h
    injection h with h
    subst h
    have h4 : cs[j].methods.findIdx? (isSg m) = some k := by
      unfold idxI at h3
      cases hq : cs[j].methods.findIdx? (isSg m) with
      | none => rw [hq] at h3; simp at h3
      | some i => rw [hq] at h3; have h3 : (i : Int) = k := h3; rw [show i = k by omega]
    obtain ⟨_, h5, _⟩ := List.findIdx?_eq_some_iff_getElem.1 h4
    exact eqS_iff.1 h5
theorem statS_has {cs : List Cls} {x : Ins} {g : Sg} (h : statS cs x = some g) : (∃ c ∈ cs, g ∈ c.methods) ∧ g.name = x.name ∧ 0 ≤ fnd cs x.cls ∧ g.static = true := by
  refine ⟨statS_mem h, ?_⟩
  unfold statS at h
  split at h
  · cases h
  rename_i h0
  cases hx : cs[(fnd cs x.cls).toNat]? with
  | none => rw [hx] at h; cases h
  | some c =>
    rw [hx] at h
    simp only at h
    split at h
    · cases h
    rename_i h1
    split at h
    · rename_i m hm
      split at h
      · rename_i hs
        injection h with h; subst h
        refine ⟨?_, by omega, hs⟩
        have h3 : c.methods.findIdx? (isSg x.name) = some (idxI (isSg x.name) c.methods).toNat := by
          unfold idxI at h1 ⊢
          cases hq : c.methods.findIdx? (isSg x.name) with
          | none => rw [hq] at h1; simp at h1
          | some i => simp
        obtain ⟨hi, h5, _⟩ := List.findIdx?_eq_some_iff_getElem.1 h3
        rw [List.getElem?_eq_getElem hi] at hm
        injection hm with hm
        rw [hm] at h5
        exact eqS_iff.1 h5
      · cases h
    · cases h

/-! ### The parts of a valid unit -/
structure ClsV (cs : List Cls) (i : Nat) (c : Cls) : Prop where
  name : identB c.name = true
  first : fnd cs c.name = i
  sup : c.super.toList.isEmpty = false → 0 ≤ fnd cs c.super
  fl : c.fields.length ≤ 16
  ml : c.methods.length ≤ 16
  fields : ∀ f ∈ c.fields, identB f.name = true ∧ isTy cs f.typ = true
  methods : ∀ m ∈ c.methods, identB m.name = true ∧ m.params.length ≤ 6 ∧ (∀ p ∈ m.params, isTy cs p = true) ∧ (m.result.toList.isEmpty || isTy cs m.result) = true
theorem clsV_of {cs : List Cls} {i : Nat} {c : Cls} (h : clsE cs i c = 0) : ClsV cs i c := by
  obtain ⟨⟨h1, h2⟩, h3, h4, h5, h6, h7, h8⟩ := clsE_parts h
  refine ⟨h3, h4, h5, h1, h2, fun f hf => ?_, fun m hm => ?_⟩
  · obtain ⟨k, hk, rfl⟩ := List.getElem_of_mem hf
    have := h7 k hk
    unfold fldE at this
    split at this
    · cases this
    rename_i g1
    split at this
    · cases this
    rename_i g2
    exact ⟨by simpa using g1, by simpa using g2⟩
  · obtain ⟨k, hk, rfl⟩ := List.getElem_of_mem hm
    obtain ⟨g1, _, g3, g4, g5, _⟩ := mthE_parts (h8 k hk)
    exact ⟨g1, g3, fun p hp => List.all_eq_true.1 g4 p hp, g5⟩
/-- An instruction without an error. -/
structure InsV (cs : List Cls) (f : Fun) (i : Nat) (x : Ins) : Prop where
  kind : kindBad x = false
  zero : zeroB x = true
  range : rangeB f.vars.length f.code x = true
  ctl : ctlB f.code i x = true
  typ : insT cs f.vars f.result x = 0
theorem insV_of {cs : List Cls} {f : Fun} {i : Nat} {x : Ins} (h : insE cs f.vars f.result f.code i x = 0) : InsV cs f i x := by
  rw [insE_def] at h
  split at h
  · cases h
  rename_i h1
  split at h
  · cases h
  rename_i h2
  split at h
  · cases h
  rename_i h3
  split at h
  · cases h
  rename_i h4
  exact ⟨by simpa using h1, by simpa using h2, by simpa using h3, by simpa using h4, h⟩
/-- A function without an error. -/
structure FunV (cs : List Cls) (cl : ByteArray) (m : Sg) (f : Fun) : Prop where
  bel : belB cl m f = true
  vl : f.vars.length ≤ 256
  cl0 : 0 < f.code.length
  cl1 : f.code.length ≤ 1024
  vars : ∀ i (hi : i < f.vars.length), vrE cs f.static i f.vars[i] = 0
  code : ∀ i (hi : i < f.code.length), InsV cs f i f.code[i]
theorem funV_of {cs : List Cls} {cl : ByteArray} {m : Sg} {f : Fun} (h : (fcE cs cl m f).2 = 0) : FunV cs cl m f := by
  have h0 : funE cs cl m f = 0 := by
    rcases Classical.em (funE cs cl m f = 0) with h1 | h1
    · exact h1
    · rw [fcE_fun h1] at h; exact absurd h h1
  obtain ⟨h1, h2, h3, h4, h5⟩ := funE_code h0
  refine ⟨h1, h2, h5, h3, h4, fun i hi => ?_⟩
  unfold fcE at h
  rw [if_neg (by simpa using h0)] at h
  split at h
  · rename_i k hk
    have := List.find?_some (by unfold frstP at hk; exact hk)
    simp only [decide_eq_true_eq] at this
    exact absurd h this
  · rename_i hn
    have := frstP_all hn i hi
    rw [insF_at hi] at this
    exact insV_of this
/-- A unit without an error. -/
structure UntV (u : Unt) : Prop where
  hcl : u.classes.length ≤ 64
  cls : ∀ i (hi : i < u.classes.length), ClsV u.classes i u.classes[i]
  hfl : u.funcs.length ≤ 256
  hlen : u.funcs.length = mthN u.classes
  m0 : 0 ≤ u.main
  m1 : u.main < u.funcs.length
  main : ∃ f, u.funcs[u.main.toNat]? = some f ∧ mainB f = true
  fn : ∀ k (hk : k < u.funcs.length), ∃ p, (mthL u.classes)[k]? = some p ∧ FunV u.classes p.1 p.2 u.funcs[k]
  sites : siteN u.funcs ≤ 1024
theorem untV_of {u : Unt} (h : (chkE u).2.2 = 0) : UntV u := by
  have hu : uniE u = 0 := by
    rcases Classical.em (uniE u = 0) with h1 | h1
    · exact h1
    · unfold chkE at h; rw [if_pos h1] at h; exact absurd h h1
  obtain ⟨h1, h2, h3, h4, h5, h6⟩ := uniE_parts hu
  obtain ⟨h7, h8⟩ := hierE_valid h1
  unfold chkE at h
  rw [if_neg (by simpa using hu)] at h
  split at h
  · rename_i k hk
    have := List.find?_some (by unfold frstP at hk; exact hk)
    simp only [decide_eq_true_eq] at this
    exact absurd h this
  · rename_i hn
    refine ⟨h7, fun i hi => clsV_of (h8 i hi), h2, h3, h4, h5, h6, fun k hk => ?_, ?_⟩
    · have hkl : k < (mthL u.classes).length := by rw [mthL_len]; omega
      have h9 := frstP_all hn k hk
      refine ⟨(mthL u.classes)[k], List.getElem?_eq_getElem hkl, ?_⟩
      rw [fcF_at hk (List.getElem?_eq_getElem hkl)] at h9
      exact funV_of h9
    · split at h
      · cases h
      · omega
theorem mthL_mem {cs : List Cls} {p : ByteArray × Sg} (h : p ∈ mthL cs) : ∃ c ∈ cs, p.1 = c.name ∧ p.2 ∈ c.methods := by
  unfold mthL at h
  obtain ⟨c, hc, hp⟩ := List.mem_flatMap.1 h
  obtain ⟨m, hm, rfl⟩ := List.mem_map.1 hp
  exact ⟨c, hc, rfl, hm⟩

/-! ### Sizes of texts in a valid unit -/
theorem UntV.clsName {u : Unt} (H : UntV u) {c : Cls} (hc : c ∈ u.classes) : identB c.name = true := by
  obtain ⟨i, hi, rfl⟩ := List.getElem_of_mem hc
  exact (H.cls i hi).name
theorem UntV.fnd {u : Unt} (H : UntV u) {s : ByteArray} (h : 0 ≤ fnd u.classes s) : identB s = true := by
  obtain ⟨c, hc, rfl⟩ := fnd_found h
  exact H.clsName hc
theorem UntV.ty {u : Unt} (H : UntV u) {s : ByteArray} (h : isTy u.classes s = true) : 0 < s.size ∧ s.size ≤ 32 := by
  unfold isTy at h
  rw [Bool.or_eq_true] at h
  rcases h with h | h
  · have : s.toList.length = 3 := by rw [beq_iff_eq] at h; rw [h]; rfl
    rw [ByteArray.toList_eq] at this
    rw [Array.length_toList] at this
    have h2 : s.data.size = s.size := rfl
    omega
  · exact identB_len (H.fnd (of_decide_eq_true h))
theorem insT_new {cs : List Cls} {vars : List Fld} {res : ByteArray} {x : Ins} (h : x.op = 6 ∨ x.op = 15) : insT cs vars res x = if fnd cs x.cls < 0 then 6 else typed (fitsB cs x.cls (tyOf vars x.dst)) := by
  rcases h with h | h <;> simp [insT, h]
theorem insT_field {cs : List Cls} {vars : List Fld} {res : ByteArray} {x : Ins} (h : x.op = 7 ∨ x.op = 8) : insT cs vars res x = fieldE cs vars x := by
  rcases h with h | h <;> simp [insT, h]
def callT (cs : List Cls) (vars : List Fld) (x : Ins) : Int := if !isClsT cs (tyOf vars x.a) || !((tyOf vars x.a).toList == x.cls.toList) then 8 else match sgAt cs (lookS cs x.cls x.name) with
    | none => 6
    | some g => if g.static then 6 else callE cs vars x g
theorem insT_call {cs : List Cls} {vars : List Fld} {res : ByteArray} {x : Ins} (h : x.op = 9) : insT cs vars res x = callT cs vars x := by
  unfold callT
  simp [insT, h] <;> rfl
def statT (cs : List Cls) (vars : List Fld) (x : Ins) : Int := match statS cs x with
    | none => 6
    | some g => callE cs vars x g
theorem insT_stat {cs : List Cls} {vars : List Fld} {res : ByteArray} {x : Ins} (h : x.op = 10) : insT cs vars res x = statT cs vars x := by
  unfold statT
  simp [insT, h] <;> rfl
theorem fieldE_ok {cs : List Cls} {vars : List Fld} {x : Ins} (h : fieldE cs vars x = 0) : isClsT cs (tyOf vars x.a) = true ∧ (fieldS cs (tyOf vars x.a) x.name).2.2 = true := by
  cases h1 : isClsT cs (tyOf vars x.a) with
  | false => rw [fieldE_no h1] at h; cases h
  | true =>
    cases h2 : (fieldS cs (tyOf vars x.a) x.name).2.2 with
    | false => rw [fieldE_un h1 h2] at h; cases h
    | true => exact ⟨rfl, rfl⟩
theorem callT_ok {cs : List Cls} {vars : List Fld} {x : Ins} (h : callT cs vars x = 0) : isClsT cs (tyOf vars x.a) = true ∧ tyOf vars x.a = x.cls ∧ ∃ g, sgAt cs (lookS cs x.cls x.name) = some g ∧ g.static = false ∧ callE cs vars x g = 0 := by
  unfold callT at h
  split at h
  · cases h
  rename_i h1
  rw [Bool.or_eq_true] at h1
  have h2 : isClsT cs (tyOf vars x.a) = true := by
    cases hq : isClsT cs (tyOf vars x.a) with
    | true => rfl
    | false => rw [hq] at h1; exact absurd (Or.inl rfl) h1
  have h3 : ((tyOf vars x.a).toList == x.cls.toList) = true := by
    cases hq : ((tyOf vars x.a).toList == x.cls.toList) with
    | true => rfl
    | false => rw [hq] at h1; exact absurd (Or.inr rfl) h1
  split at h
  · cases h
  · rename_i g hg
    split at h
    · cases h
    · rename_i hs
      exact ⟨h2, eqS_iff.1 h3, g, hg, by simpa using hs, h⟩
theorem statT_ok {cs : List Cls} {vars : List Fld} {x : Ins} (h : statT cs vars x = 0) : ∃ g, statS cs x = some g ∧ callE cs vars x g = 0 := by
  unfold statT at h
  split at h
  · cases h
  · rename_i g hg; exact ⟨g, hg, h⟩
/-- The sizes of an instruction's texts and of its operands. -/
theorem UntV.ins {u : Unt} (H : UntV u) {f : Fun} {i : Nat} {x : Ins} (hx : InsV u.classes f i x) : x.cls.size ≤ 32 ∧ x.name.size ≤ 32 ∧ x.args.length ≤ 6 := by
  have hk : knownB x.op = true := by
    cases h : knownB x.op with
    | true => rfl
    | false => have := hx.kind; unfold kindBad at this; rw [h] at this; cases this
  have hz := hx.zero
  have ht := hx.typ
  unfold zeroB at hz
  simp only [Bool.and_eq_true, Bool.or_eq_true] at hz
  obtain ⟨⟨⟨⟨_, hzc⟩, hzm⟩, hza⟩, _⟩ := hz
  have he : ∀ s : ByteArray, s.toList.isEmpty = true → s.size ≤ 32 := fun s h => by
    rw [List.isEmpty_iff] at h
    have : s.toList.length = 0 := by rw [h]; rfl
    rw [ByteArray.toList_eq, Array.length_toList] at this
    have h2 : s.data.size = s.size := rfl
    omega
  have hm : ∀ g : Sg, (∃ c ∈ u.classes, g ∈ c.methods) → g.name.size ≤ 32 ∧ g.params.length ≤ 6 := fun g ⟨c, hc, hg⟩ => by
    obtain ⟨j, hj, rfl⟩ := List.getElem_of_mem hc
    have := (H.cls j hj).methods g hg
    exact ⟨(identB_len this.1).2, this.2.1⟩
  have hca : ∀ g : Sg, callE u.classes f.vars x g = 0 → x.args.length = g.params.length := fun g h => by
    rcases Classical.em (x.args.length = g.params.length) with h1 | h1
    · exact h1
    · rw [callE_len h1] at h; cases h
  unfold knownB at hk
  simp only [Bool.and_eq_true, decide_eq_true_eq] at hk
  have hc0 : usesB x.op 99 = false → x.cls.size ≤ 32 := fun h => by rw [h] at hzc; exact he _ (by simpa using hzc)
  have hm0 : usesB x.op 109 = false → x.name.size ≤ 32 := fun h => by rw [h] at hzm; exact he _ (by simpa using hzm)
  have ha0 : usesB x.op 42 = false → x.args.length ≤ 6 := fun h => by
    rw [h] at hza
    have : ((x.args.length : Int) == 0) = true := by simpa using hza
    rw [beq_iff_eq] at this; omega
  have hop : x.op = 0 ∨ x.op = 1 ∨ x.op = 2 ∨ x.op = 3 ∨ x.op = 4 ∨ x.op = 5 ∨ x.op = 11 ∨ x.op = 12 ∨ x.op = 13 ∨ x.op = 14 ∨ x.op = 16 ∨ x.op = 6 ∨ x.op = 15 ∨ x.op = 7 ∨ x.op = 8 ∨ x.op = 9 ∨ x.op = 10 := by omega
  rcases hop with h | h | h | h | h | h | h | h | h | h | h | h | h | h | h | h | h
  iterate 11 exact ⟨hc0 (by rw [h]; rfl), hm0 (by rw [h]; rfl), ha0 (by rw [h]; rfl)⟩
  iterate 2
    refine ⟨?_, hm0 (by rw [h]; rfl), ha0 (by rw [h]; rfl)⟩
    rw [insT_new (by omega)] at ht
    split at ht
    · cases ht
    · exact (identB_len (H.fnd (by omega))).2
  iterate 2
    refine ⟨hc0 (by rw [h]; rfl), ?_, ha0 (by rw [h]; rfl)⟩
    rw [insT_field (by omega)] at ht
    obtain ⟨c, hc, g, hg, hn⟩ := fieldL_has (fieldE_ok ht).2
    obtain ⟨j, hj, rfl⟩ := List.getElem_of_mem hc
    rw [← hn]
    exact (identB_len ((H.cls j hj).fields g hg).1).2
  · rw [insT_call h] at ht
    obtain ⟨h1, h2, g, hg, _, hce⟩ := callT_ok ht
    obtain ⟨h3, h4⟩ := lookS_has hg
    obtain ⟨h5, h6⟩ := hm g h3
    rw [h2] at h1
    refine ⟨(identB_len (H.fnd ?_)).2, by rw [← h4]; exact h5, by rw [hca g hce]; exact h6⟩
    unfold isClsT at h1
    simp only [Bool.and_eq_true, decide_eq_true_eq] at h1
    exact h1.2
  · rw [insT_stat h] at ht
    obtain ⟨g, hg, hce⟩ := statT_ok ht
    obtain ⟨h3, h4, h7, _⟩ := statS_has hg
    obtain ⟨h5, h6⟩ := hm g h3
    exact ⟨(identB_len (H.fnd h7)).2, by rw [← h4]; exact h5, by rw [hca g hce]; exact h6⟩
theorem UntV.kindOp {u : Unt} {f : Fun} {i : Nat} {x : Ins} (hx : InsV u.classes f i x) : 0 ≤ x.op ∧ x.op < 17 ∧ (x.op = 4 → 1 ≤ x.n ∧ x.n ≤ 5) := by
  have h := hx.kind
  unfold kindBad knownB at h
  simp only [Bool.or_eq_false_iff, Bool.not_eq_false', Bool.and_eq_true, decide_eq_true_eq] at h
  refine ⟨h.1.1, h.1.2, fun h4 => ?_⟩
  have := h.2
  rw [h4] at this
  simp at this
  omega
/-- The sizes of the texts of a function. -/
theorem UntV.fun {u : Unt} (H : UntV u) {k : Nat} (hk : k < u.funcs.length) : u.funcs[k].cls.size ≤ 32 ∧ u.funcs[k].name.size ≤ 32 ∧ ∀ v ∈ u.funcs[k].vars, v.name.size ≤ 32 ∧ v.typ.size ≤ 32 := by
  obtain ⟨p, hp, hf⟩ := H.fn k hk
  obtain ⟨c, hc, h1, h2⟩ := mthL_mem (List.mem_of_getElem? hp)
  have hb := hf.bel
  rw [belB_def] at hb
  simp only [Bool.and_eq_true] at hb
  have he := hb.1.1.1.1
  unfold belEq at he
  simp only [Bool.and_eq_true] at he
  obtain ⟨j, hj, rfl⟩ := List.getElem_of_mem hc
  have hm := (H.cls j hj).methods p.2 h2
  refine ⟨by rw [eqS_iff.1 he.1, h1]; exact (identB_len (H.clsName hc)).2, by rw [eqS_iff.1 he.2.1]; exact (identB_len hm.1).2, fun v hv => ?_⟩
  obtain ⟨i, hi, rfl⟩ := List.getElem_of_mem hv
  have hv := hf.vars i hi
  rw [vrE_def] at hv
  split at hv
  · cases hv
  rename_i g1
  split at hv
  · cases hv
  rename_i g2
  have hl : ∀ (s : ByteArray) (l : List UInt8) (n : Nat), (s.toList == l) = true → l.length = n → s.size = n := fun s l n h hn => by
    rw [beq_iff_eq] at h
    have : s.toList.length = n := by rw [h, hn]
    rw [ByteArray.toList_eq, Array.length_toList] at this
    exact this
  constructor
  · generalize u.funcs[k].vars[i] = v at *
    unfold vrB1 at g1
    cases hn : varNmB v.name with
    | true =>
      unfold varNmB at hn
      split at hn
      · rename_i h; exact h.1
      · exact (identB_len hn).2
    | false =>
      rw [hn] at g1
      cases ht : (v.name.toList == [116, 104, 105, 115]) with
      | true => have := hl _ _ 4 ht rfl; omega
      | false => rw [ht] at g1; exact absurd rfl g1
  · generalize u.funcs[k].vars[i] = v at *
    unfold vrB2 at g2
    cases hn : (v.typ.toList == [105, 110, 116]) with
    | true => have := hl _ _ 3 hn rfl; omega
    | false =>
      cases ht : (v.typ.toList == [110, 117, 108, 108]) with
      | true => have := hl _ _ 4 ht rfl; omega
      | false =>
        rw [hn, ht] at g2
        have : ¬ Go.Proofs.YticpeombillmeaaGreatDoor.fnd u.classes v.typ < 0 := fun h => g2 (by rw [decide_eq_true h]; rfl)
        exact (identB_len (H.fnd (by omega))).2
end Go.Proofs.YticpeombillmeaaGreatDoor
namespace Go.Proofs.YticpeombillmeaaGreatDoor
open Go.RowKit
set_option linter.unusedVariables false

def dg (n : Int) : List UInt8 := Lib.itoa n
theorem dg_len {n : Int} (h0 : -9223372036854775808 ≤ n) (h1 : n ≤ 9223372036854775807) : (dg n).length ≤ 21 := Lib.itoa_length_le n h0 h1
def nameL : List (List UInt8) := [[110, 111, 112], [99, 111, 110, 115, 116], [110, 117, 108, 108], [99, 111, 112, 121], [98, 105, 110], [105, 110, 112, 117, 116], [110, 101, 119], [108, 111, 97, 100], [115, 116, 111, 114, 101], [99, 97, 108, 108], [115, 116, 97, 116, 105, 99], [98, 114, 97, 110, 99, 104], [106, 117, 109, 112], [114, 101, 116, 117, 114, 110], [116, 104, 114, 111, 119], [99, 97, 116, 99, 104], [115, 104, 105, 102, 116]]
def namesB : List ByteArray := nameL.map bsOf
def operL : List (List UInt8) := [[43], [45], [42], [60], [61, 61]]
def opersB : List ByteArray := operL.map bsOf
structure Gl3 (w : World) : Prop where
  kw : KwX w
  tab : Lib.TabIs Tryz.prog w "internal/strconv.uint64pow10" .u64 Lib.pow10Tab
  lt : 4 < w.heap.size
  es : ∃ t p, w.cell? ⟨10, 0, none⟩ = some (.iface t p)
  er : ∃ t p, w.cell? ⟨11, 0, none⟩ = some (.iface t p)
  ml : ∃ m, w.cell? ⟨3, 0, none⟩ = some (.int .i64 m)
  fx : FormX w
  nx : ∀ i (h : i < namesB.length), w.cell? ⟨0, i, none⟩ = some (.string namesB[i])
  ox : ∀ i (h : i < opersB.length), w.cell? ⟨2, i, none⟩ = some (.string opersB[i])
theorem Gl3.mono {w w' : World} (h : Gl3 w) (hb : Below w.heap.size w w') : Gl3 w' := by
  obtain ⟨h1, h2, h3, ⟨t, p, h4⟩, ⟨t', p', h5⟩, ⟨m, h6⟩, h7, h8, h9⟩ := h
  refine ⟨h1.mono hb, var?_below hb (by kernel_rfl) h3 h2, Nat.lt_of_lt_of_le h3 hb.size, ⟨t, p, ?_⟩, ⟨t', p', ?_⟩, ⟨m, ?_⟩, h7.mono hb, fun i hi => ?_, fun i hi => ?_⟩
  · rw [hb.cell (p := ⟨_, 0, none⟩) (cell_lt h4)]; exact h4
  · rw [hb.cell (p := ⟨_, 0, none⟩) (cell_lt h5)]; exact h5
  · rw [hb.cell (p := ⟨_, 0, none⟩) (cell_lt h6)]; exact h6
  · rw [hb.cell (p := ⟨_, i, none⟩) (cell_lt (h8 i hi))]; exact h8 i hi
  · rw [hb.cell (p := ⟨_, i, none⟩) (cell_lt (h9 i hi))]; exact h9 i hi
theorem itoa_any (n : Int) (w : World) (hn : I64 n) (hg : Gl3 w) : Calls Tryz.prog 47 #[.int .i64 n] w fun e w' => e = .returned (.string (bsOf (dg n))) ∧ Below w.heap.size w w' :=
  (Tryz.strconv_Itoa n hn.1 hn.2 w hg.tab).mono fun e w' ⟨h1, k, os, h2⟩ => ⟨h1, by rw [h2]; exact below_growN w k os⟩
set_option maxHeartbeats 1000000 in
theorem fmtInt_any (n : Int) (w : World) (hn : I64 n) (hg : Gl3 w) : Calls Tryz.prog 48 #[.int .i64 n, .int .i64 10] w fun e w' => e = .returned (.string (bsOf (dg n))) ∧ Below w.heap.size w w' := by
  obtain ⟨h0, h1⟩ := hn
  have HC : Hid (Calls Tryz.prog 80 #[.int .i64 n, .int .i64 10] w fun e w' => e = .returned (.string (bsOf (dg n))) ∧ Below w.heap.size w w') :=
    (Tryz.internal_strconv_FormatInt_10 n h0 h1 w hg.tab).mono fun e w' ⟨h1, k, os, h2⟩ => ⟨h1, by rw [h2]; exact below_growN w k os⟩
  go_enter Tryz.func48, Tryz.ntmps48
  go_wp2_with fail
  refine HC.out.mono ?_
  rintro e w1 ⟨rfl, hb1⟩
  go_wp2_with fail
  go_ret
  exact ⟨rfl, hb1⟩
theorem cutS (c : UInt8) (s : ByteArray) (w : World) (hg : Gl3 w) (hs : s.size ≤ 2000000) : Calls Tryz.prog 24 #[.string s, .string ⟨#[c]⟩] w fun e w' => e = .returned (.tuple #[.string (bsOf (Lib.cut (toL s) [c]).1), .string (bsOf (Lib.cut (toL s) [c]).2.1), .bool (Lib.cut (toL s) [c]).2.2]) ∧ Below w.heap.size w w' := by
  obtain ⟨m, hm⟩ := hg.ml
  refine (Tryz.strings_Cut s ⟨#[c]⟩ m w (by omega) hm).mono ?_
  rintro e w' ⟨rfl, n, rfl⟩
  exact ⟨rfl, below_drewN (Below.refl _ _) n⟩
theorem splitS (c : UInt8) (s : ByteArray) (w : World) (hg : Gl3 w) (hs : s.size ≤ 2000000) : Calls Tryz.prog 25 #[.string s, .string ⟨#[c]⟩] w fun e w' => e = .returned (.slice (some ⟨w.heap.size, 0, none⟩) ((spl c (toL s)).map bsOf).length ((spl c (toL s)).map bsOf).length) ∧ Box w' w.heap.size (((spl c (toL s)).map bsOf).map Value.string) 9 ∧ Below w.heap.size w w' := by
  obtain ⟨m, hm⟩ := hg.ml
  refine (Tryz.strings_Split s ⟨#[c]⟩ m w (by omega) hm (Nat.le_refl 1)).mono ?_
  rintro e w' ⟨rfl, rfl⟩
  obtain ⟨h1, h2⟩ := splitB_spl c s.size s (Nat.le_refl _)
  have h3 : Lib.splitB ⟨#[c]⟩ 0 (Lib.countB s ⟨#[c]⟩) s = (spl c (toL s)).map bsOf := by
    rw [← h1, List.map_map]
    have : (bsOf ∘ toL) = id := by funext x; exact mk_toL x
    rw [this, List.map_id]
  have h4 : Lib.countB s ⟨#[c]⟩ + 1 = ((spl c (toL s)).map bsOf).length := by rw [List.length_map]; exact h2
  rw [h3, h4]
  exact ⟨rfl, Box.new w (((spl c (toL s)).map bsOf).map Value.string) 9, (by repeat (first | assumption | exact Below.refl _ _ | apply bw_alloc | apply bw_drew | apply bw_drewN | apply bw_later | apply bw_step))⟩
end Go.Proofs.YticpeombillmeaaGreatDoor
namespace Go.Proofs.YticpeombillmeaaGreatDoor
open Go.RowKit
set_option linter.unusedVariables false

def wClass : List UInt8 := [99, 108, 97, 115, 115]
def wField : List UInt8 := [102, 105, 101, 108, 100]
def wMethod : List UInt8 := [109, 101, 116, 104, 111, 100]
def wFunc : List UInt8 := [102, 117, 110, 99]
def wVar : List UInt8 := [118, 97, 114]
def wVirt : List UInt8 := [118, 105, 114, 116, 117, 97, 108]
def wStat : List UInt8 := [115, 116, 97, 116, 105, 99]
def clsW (c : Cls) : List ByteArray := if c.super.toList.isEmpty then [bsOf wClass, c.name] else [bsOf wClass, c.name, c.super]
def fldW (f : Fld) : List ByteArray := [bsOf wField, f.name, f.typ]
def mthW (m : Sg) : List ByteArray := [bsOf wMethod, m.name, bsOf (if m.static then wStat else wVirt), if m.result.toList.isEmpty then bsOf [45] else m.result] ++ m.params
def funW (f : Fun) : List ByteArray := [bsOf wFunc, f.cls, f.name]
def varW (v : Fld) : List ByteArray := [bsOf wVar, v.name, v.typ]
def fieldW (x : Ins) (c : UInt8) : List ByteArray :=
  if c = 100 then [bsOf (dg x.dst)] else if c = 97 then [bsOf (dg x.a)] else if c = 98 then [bsOf (dg x.b)] else if c = 110 then [bsOf (dg x.n)] else if c = 111 then [(opersB[(x.n - 1).toNat]?).getD ByteArray.empty]
  else if c = 99 then [x.cls] else if c = 109 then [x.name] else if c = 103 then [bsOf (dg x.jmp)] else if c = 42 then x.args.map (fun v => bsOf (dg v)) else []
def insW (x : Ins) : List ByteArray := [bsOf (dg x.hnd), (namesB[x.op.toNat]?).getD ByteArray.empty] ++ (formOf x.op).flatMap (fieldW x)
def lnT (ws : List ByteArray) : List UInt8 := lineT (ws.map toL)
def fldT (f : Fld) : List UInt8 := lnT (fldW f)
def mthT (m : Sg) : List UInt8 := lnT (mthW m)
def varT (v : Fld) : List UInt8 := lnT (varW v)
def insTx (x : Ins) : List UInt8 := lnT (insW x)
def clsT (c : Cls) : List UInt8 := lnT (clsW c) ++ c.fields.flatMap fldT ++ c.methods.flatMap mthT
def funT (f : Fun) : List UInt8 := lnT (funW f) ++ f.vars.flatMap varT ++ f.code.flatMap insTx
def txtU (u : Unt) : List UInt8 := u.classes.flatMap clsT ++ u.funcs.flatMap funT

/-! ### Lengths -/
theorem lnT_len {ws : List ByteArray} (n : Nat) (h0 : 0 < ws.length) (h : ∀ x ∈ ws, x.size ≤ n) : (lnT ws).length ≤ (n + 1) * ws.length := by
  unfold lnT lineT
  cases ws with
  | nil => simp at h0
  | cons a r =>
    rw [List.map_cons, Lib.join_cons, joinTail_flat, List.length_append, List.length_append, toL_len]
    have h1 := h a (by simp)
    have h2 : ((r.map toL).flatMap (fun x => [32] ++ x)).length ≤ (n + 1) * (r.map toL).length := flat_len _ _ _ fun x hx => by
      obtain ⟨y, hy, rfl⟩ := List.mem_map.1 hx
      have := h y (by simp [hy])
      rw [List.length_append, toL_len]
      simp; omega
    rw [List.length_map] at h2
    simp only [List.length_cons, List.length_nil, Nat.mul_add]
    omega
/-- The words of a line within a valid unit. -/
structure WdsOk (ws : List ByteArray) : Prop where
  pos : 0 < ws.length
  len : ws.length ≤ 14
  size : ∀ x ∈ ws, x.size ≤ 40
theorem WdsOk.line {ws : List ByteArray} (h : WdsOk ws) : (lnT ws).length ≤ 600 := by
  have h1 := lnT_len 40 h.pos h.size
  have h2 := Nat.mul_le_mul_left 41 h.len
  omega
theorem dg_le {n : Int} (h : I64 n) : (bsOf (dg n)).size ≤ 40 := by
  have := dg_len h.1 h.2
  rw [bsOf_size]; omega
def InsI (x : Ins) : Prop := I64 x.dst ∧ I64 x.a ∧ I64 x.b ∧ I64 x.n ∧ I64 x.jmp ∧ I64 x.hnd ∧ ∀ v ∈ x.args, I64 v
theorem fieldW_ok {x : Ins} (hI : InsI x) (hc : x.cls.size ≤ 32) (hn : x.name.size ≤ 32) (c : UInt8) : ∀ y ∈ fieldW x c, y.size ≤ 40 := by
  obtain ⟨i1, i2, i3, i4, i5, i6, i7⟩ := hI
  intro y hy
  unfold fieldW at hy
  split at hy
  · simp at hy; subst hy; exact dg_le i1
  split at hy
  · simp at hy; subst hy; exact dg_le i2
  split at hy
  · simp at hy; subst hy; exact dg_le i3
  split at hy
  · simp at hy; subst hy; exact dg_le i4
  split at hy
  · simp only [List.mem_singleton] at hy
    subst hy
    cases h : opersB[(x.n - 1).toNat]? with
    | none => show ByteArray.empty.size ≤ 40; decide
    | some z =>
      have hz : ∀ z ∈ opersB, z.size ≤ 40 := by decide
      exact hz z (List.mem_of_getElem? h)
  split at hy
  · simp at hy; subst hy; omega
  split at hy
  · simp at hy; subst hy; omega
  split at hy
  · simp at hy; subst hy; exact dg_le i5
  split at hy
  · obtain ⟨v, hv, rfl⟩ := List.mem_map.1 hy
    exact dg_le (i7 v hv)
  · simp at hy
theorem fieldW_len {x : Ins} (ha : x.args.length ≤ 6) (c : UInt8) : (fieldW x c).length ≤ if c = 42 then 6 else 1 := by
  unfold fieldW
  repeat' split
  all_goals simp_all
theorem form_nat {op : Int} (h : 0 ≤ op ∧ op < 17) : ∃ k : Nat, op = k ∧ k < 17 := ⟨op.toNat, by omega, by omega⟩
theorem form_len : ∀ k, k < 17 → ((formL[k]?).getD []).length ≤ 5 ∧ ((formL[k]?).getD []).countP (fun c => decide (c = 42)) ≤ 1 := by decide
theorem flat_count {α : Type} (f : UInt8 → List α) (h : ∀ c, (f c).length ≤ if c = 42 then 6 else 1) : ∀ l : List UInt8, (l.flatMap f).length ≤ l.length + 5 * l.countP (fun c => decide (c = 42))
  | [] => by simp
  | c :: l => by
    have ih := flat_count f h l
    have h1 := h c
    rw [List.flatMap_cons, List.length_append, List.length_cons, List.countP_cons]
    by_cases hc : c = 42
    · rw [if_pos hc] at h1
      rw [decide_eq_true hc, if_pos rfl]
      omega
    · rw [if_neg hc] at h1
      rw [decide_eq_false hc, if_neg (by simp)]
      omega
theorem insW_ok {x : Ins} (hI : InsI x) (hc : x.cls.size ≤ 32) (hn : x.name.size ≤ 32) (ha : x.args.length ≤ 6) (hop : 0 ≤ x.op ∧ x.op < 17) : WdsOk (insW x) := by
  obtain ⟨k, hk, hk2⟩ := form_nat hop
  have h1 := form_len k hk2
  have h2 := flat_count (fieldW x) (fieldW_len ha) (formOf x.op)
  have h3 : formOf x.op = (formL[k]?).getD [] := by unfold formOf; rw [hk, Int.toNat_natCast]
  rw [← h3] at h1
  refine ⟨by unfold insW; simp, by unfold insW; simp only [List.length_append, List.length_cons, List.length_nil]; omega, fun y hy => ?_⟩
  unfold insW at hy
  rw [List.mem_append] at hy
  rcases hy with hy | hy
  · simp only [List.mem_cons, List.not_mem_nil, or_false] at hy
    rcases hy with rfl | rfl
    · exact dg_le hI.2.2.2.2.2.1
    · cases h : namesB[x.op.toNat]? with
      | none => show ByteArray.empty.size ≤ 40; decide
      | some z =>
        have hz : ∀ z ∈ namesB, z.size ≤ 40 := by decide
        exact hz z (List.mem_of_getElem? h)
  · obtain ⟨c, _, hy⟩ := List.mem_flatMap.1 hy
    exact fieldW_ok hI hc hn c y hy
theorem three_ok {a b c : ByteArray} (h1 : a.size ≤ 40) (h2 : b.size ≤ 40) (h3 : c.size ≤ 40) : WdsOk [a, b, c] := by
  refine ⟨by simp, by simp, fun x hx => ?_⟩
  simp only [List.mem_cons, List.not_mem_nil, or_false] at hx
  rcases hx with rfl | rfl | rfl <;> assumption
theorem two_ok {a b : ByteArray} (h1 : a.size ≤ 40) (h2 : b.size ≤ 40) : WdsOk [a, b] := by
  refine ⟨by simp, by simp, fun x hx => ?_⟩
  simp only [List.mem_cons, List.not_mem_nil, or_false] at hx
  rcases hx with rfl | rfl <;> assumption
theorem mthW_ok {m : Sg} (h1 : m.name.size ≤ 32) (h2 : m.result.size ≤ 32) (h3 : m.params.length ≤ 6) (h4 : ∀ p ∈ m.params, p.size ≤ 32) : WdsOk (mthW m) := by
  refine ⟨by unfold mthW; simp, by unfold mthW; simp; omega, fun y hy => ?_⟩
  unfold mthW at hy
  rw [List.mem_append] at hy
  rcases hy with hy | hy
  · simp only [List.mem_cons, List.not_mem_nil, or_false] at hy
    rcases hy with rfl | rfl | rfl | rfl
    · decide
    · omega
    · cases m.static <;> decide
    · split
      · decide
      · omega
  · have := h4 y hy; omega

/-- What a valid unit's text leans on. -/
structure TxV (u : Unt) : Prop where
  hcl : u.classes.length ≤ 64
  cls : ∀ c ∈ u.classes, WdsOk (clsW c) ∧ c.fields.length ≤ 16 ∧ c.methods.length ≤ 16 ∧ (∀ f ∈ c.fields, WdsOk (fldW f)) ∧ ∀ m ∈ c.methods, WdsOk (mthW m) ∧ m.params.length ≤ 6
  hfl : u.funcs.length ≤ 256
  fun_ : ∀ f ∈ u.funcs, WdsOk (funW f) ∧ f.vars.length ≤ 256 ∧ f.code.length ≤ 1024 ∧ (∀ v ∈ f.vars, WdsOk (varW v)) ∧ ∀ x ∈ f.code, WdsOk (insW x) ∧ InsI x ∧ 0 ≤ x.op ∧ x.op < 17 ∧ (x.op = 4 → 1 ≤ x.n ∧ x.n ≤ 5)
theorem txV_of {u : Unt} (H : UntV u) (hI : ∀ f ∈ u.funcs, ∀ x ∈ f.code, InsI x) : TxV u := by
  refine ⟨H.hcl, fun c hc => ?_, H.hfl, fun f hf => ?_⟩
  · obtain ⟨i, hi, rfl⟩ := List.getElem_of_mem hc
    have h := H.cls i hi
    have hn := (identB_len h.name).2
    refine ⟨?_, h.fl, h.ml, fun f hf => ?_, fun m hm => ?_⟩
    · unfold clsW
      split
      · exact two_ok (by decide) (by omega)
      · rename_i hs
        exact three_ok (by decide) (by omega) (by have := (identB_len (H.fnd (h.sup (by simpa using hs)))).2; omega)
    · have h1 := h.fields f hf
      exact three_ok (by decide) (by have := (identB_len h1.1).2; omega) (by have := (H.ty h1.2).2; omega)
    · obtain ⟨h1, h2, h3, h4⟩ := h.methods m hm
      refine ⟨mthW_ok (identB_len h1).2 ?_ h2 (fun p hp => (H.ty (h3 p hp)).2), h2⟩
      rw [Bool.or_eq_true] at h4
      rcases h4 with h4 | h4
      · rw [List.isEmpty_iff] at h4
        have : m.result.toList.length = 0 := by rw [h4]; rfl
        rw [ByteArray.toList_eq, Array.length_toList] at this
        have h5 : m.result.data.size = m.result.size := rfl
        omega
      · exact (H.ty h4).2
  · obtain ⟨k, hk, rfl⟩ := List.getElem_of_mem hf
    obtain ⟨h1, h2, h3⟩ := H.fun hk
    obtain ⟨p, hp, hv⟩ := H.fn k hk
    refine ⟨three_ok (by decide) (by omega) (by omega), hv.vl, hv.cl1, fun v hv => ?_, fun x hx => ?_⟩
    · have := h3 v hv
      exact three_ok (by decide) (by omega) (by omega)
    · have hi2 := hI _ hf x hx
      obtain ⟨i, hi, rfl⟩ := List.getElem_of_mem hx
      have h4 := hv.code i hi
      obtain ⟨h5, h6, h7⟩ := H.ins h4
      obtain ⟨h8, h9, h10⟩ := UntV.kindOp h4
      exact ⟨insW_ok hi2 h5 h6 h7 ⟨h8, h9⟩, hi2, h8, h9, h10⟩
end Go.Proofs.YticpeombillmeaaGreatDoor
