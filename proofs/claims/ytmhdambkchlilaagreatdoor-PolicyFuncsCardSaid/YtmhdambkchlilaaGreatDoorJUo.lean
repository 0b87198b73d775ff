/-
  Chapter 13: instrError: the error of an instruction.
  Chapter 13: belongs: whether a function is that of a method.
  Chapter 13: funcError: the error of a function, apart from those of its instructions.
  Chapter 13: unitError: the first error of a unit that concerns no function.
-/
import Derived.Test.YtmhdambkchlilaaGreatDoorJUchN
import Derived.Test.YtmhdambkchlilaaGreatDoorJUchG
import Derived.Test.YtmhdambkchlilaaGreatDoorJUchD
import Derived.Test.YtmhdambkchlilaaGreatDoorJGa
import Derived.Test.YtmhdambkchlilaaGreatDoorJGd
namespace Go.Proofs.YtmhdambkchlilaaGreatDoor
open Go.RowKit
set_option linter.unusedVariables false

/-- What the instructions of a function lean on. -/
structure FnH (w : World) (cs : List Cls) (f : Fun) (AH AV AC : Option Addr) (cH : Nat) : Prop where
  hl : cs.length ≤ 8796093022208
  hcc : cs.length ≤ cH
  hs : Sl Lay.cls w AH cs
  hok : StrOk cs
  hlk : LensOk cs
  hv : Sl Lay.fld w AV f.vars
  hvl : f.vars.length ≤ 8796093022208
  hvo : ∀ v ∈ f.vars, okStr v.name ∧ okStr v.typ
  hc : Sl Lay.ins w AC f.code
  hcl : f.code.length ≤ 8796093022208
  hio : ∀ x ∈ f.code, okStr x.cls ∧ x.args.length ≤ 17592186044416
  hxr : okStr f.result
  hfx : FormX w
  hkw : KwX w
theorem FnH.mono {w w' : World} {cs : List Cls} {f : Fun} {AH AV AC : Option Addr} {cH : Nat} (H : FnH w cs f AH AV AC cH) (hb : Below w.heap.size w w') : FnH w' cs f AH AV AC cH :=
  ⟨H.hl, H.hcc, H.hs.mono hb, H.hok, H.hlk, H.hv.mono hb, H.hvl, H.hvo, H.hc.mono hb, H.hcl, H.hio, H.hxr, H.hfx.mono hb, H.hkw.mono hb⟩
theorem rgOk_of {n : Nat} {code : List Ins} {x : Ins} (h : rangeB n code x = true) : RgOk n x := by
  rw [rangeB_def] at h
  simp only [Bool.and_eq_true, Bool.not_eq_true'] at h
  obtain ⟨⟨⟨⟨⟨hd, ha⟩, hb⟩, hs⟩, _⟩, _⟩ := h
  refine ⟨fun u => ?_, fun u => ?_, fun u => ?_, fun v hv => List.all_eq_true.1 hs v hv⟩
  · unfold rgD at hd
    rw [u] at hd
    cases hv : varB n x.dst with
    | true => exact Or.inl rfl
    | false =>
      rw [hv] at hd
      cases hu : usesB x.op 42 with
      | false => rw [hu] at hd; cases hd
      | true =>
        rw [hu] at hd
        refine Or.inr ⟨rfl, ?_⟩
        cases hm : (x.dst != -1) with
        | true => rw [hm] at hd; cases hd
        | false => simpa using hm
  · unfold rgA at ha
    rw [u] at ha
    cases hv : varB n x.a with
    | true => exact Or.inl rfl
    | false =>
      rw [hv] at ha
      cases hu : (x.op != 13) with
      | true => rw [hu] at ha; cases ha
      | false =>
        rw [hu] at ha
        refine Or.inr ⟨by simpa using hu, ?_⟩
        cases hm : (x.a != -1) with
        | true => rw [hm] at ha; cases ha
        | false => simpa using hm
  · unfold rgB at hb
    rw [u] at hb
    cases hv : varB n x.b with
    | true => rfl
    | false => rw [hv] at hb; cases hb
/-- The first test of an instruction. -/
def kindBad (x : Ins) : Bool := !knownB x.op || (x.op == 4) && (decide (x.n < 1) || decide (5 < x.n))
theorem insE_def (cs : List Cls) (vars : List Fld) (res : ByteArray) (code : List Ins) (i : Nat) (c : Ins) :
    insE cs vars res code i c = if kindBad c then 12 else if !zeroB c then 1 else if !rangeB vars.length code c then 4 else if !ctlB code i c then 1 else insT cs vars res c := by
  unfold insE kindBad
  have e : decide (c.op = 4) = (c.op == 4) := by cases h : c.op == 4 <;> simp_all
  rw [e]

end Go.Proofs.YtmhdambkchlilaaGreatDoor
namespace Go.Proofs.YtmhdambkchlilaaGreatDoor
open Go.RowKit
set_option linter.unusedVariables false

def belEq (cl : ByteArray) (m : Sg) (f : Fun) : Bool := f.cls.toList == cl.toList && (f.name.toList == m.name.toList && (f.static == m.static && f.result.toList == m.result.toList))
def parOk (P : List ByteArray) (f : Fun) (i : Nat) : Bool := decide (((f.vars[i]?).map (·.typ)) = P[i]?)
theorem dec_eqS (a b : ByteArray) : decide (a = b) = (a.toList == b.toList) := by
  cases h : (a.toList == b.toList) with
  | true => exact decide_eq_true (eqS_iff.1 h)
  | false => exact decide_eq_false fun e => by rw [eqS_iff.2 e] at h; cases h
theorem belB_def (cl : ByteArray) (m : Sg) (f : Fun) : belB cl m f = (belEq cl m f && decide (f.nparams = (parL cl m).length) && decide ((parL cl m).length ≤ f.vars.length) && (List.range (parL cl m).length).all (parOk (parL cl m) f) && (m.static || decide (((f.vars[0]?).map (·.name.toList)) = some wThis))) := by
  unfold belB belEq
  rw [dec_eqS, dec_eqS, dec_eqS]
  have e : decide (f.static = m.static) = (f.static == m.static) := by cases f.static <;> cases m.static <;> rfl
  rw [e]
  simp only [Bool.and_assoc]
  rfl
end Go.Proofs.YtmhdambkchlilaaGreatDoor
namespace Go.Proofs.YtmhdambkchlilaaGreatDoor
open Go.RowKit
set_option linter.unusedVariables false

def vrB1 (st : Bool) (i : Nat) (v : Fld) : Bool := !varNmB v.name && (!(v.name.toList == [116, 104, 105, 115]) || (decide (0 < i) || st))
def vrB2 (cs : List Cls) (v : Fld) : Bool := !(v.typ.toList == [105, 110, 116]) && (!(v.typ.toList == [110, 117, 108, 108]) && decide (fnd cs v.typ < 0))
theorem vrE_def (cs : List Cls) (st : Bool) (i : Nat) (v : Fld) : vrE cs st i v = if vrB1 st i v then 5 else if vrB2 cs v then 8 else 0 := by
  unfold vrE vrB1 vrB2 wThis wInt wNull
  simp only [Bool.or_assoc, Bool.and_assoc]
end Go.Proofs.YtmhdambkchlilaaGreatDoor
namespace Go.Proofs.YtmhdambkchlilaaGreatDoor
open Go.RowKit
set_option linter.unusedVariables false

/-- The sizes within a function. -/
structure FunOk (f : Fun) : Prop where
  hvl : f.vars.length ≤ 8796093022208
  hvo : ∀ v ∈ f.vars, okStr v.name ∧ okStr v.typ
  hcl : f.code.length ≤ 8796093022208
  hio : ∀ x ∈ f.code, okStr x.cls ∧ x.args.length ≤ 17592186044416
  hxr : okStr f.result
/-- What the check of a unit leans on. -/
structure UnH (w : World) (u : Unt) (A0 A1 : Option Addr) (c0 : Nat) : Prop where
  hl : u.classes.length ≤ 8796093022208
  hcc : u.classes.length ≤ c0
  hs : Sl Lay.cls w A0 u.classes
  hok : StrOk u.classes
  hlk : LensOk u.classes
  hf : Sl Lay.fun w A1 u.funcs
  hfl : u.funcs.length ≤ 8796093022208
  hfo : ∀ f ∈ u.funcs, FunOk f
  hfx : FormX w
  hkw : KwX w
theorem UnH.mono {w w' : World} {u : Unt} {A0 A1 : Option Addr} {c0 : Nat} (H : UnH w u A0 A1 c0) (hb : Below w.heap.size w w') : UnH w' u A0 A1 c0 :=
  ⟨H.hl, H.hcc, H.hs.mono hb, H.hok, H.hlk, H.hf.mono hb, H.hfl, H.hfo, H.hfx.mono hb, H.hkw.mono hb⟩

theorem frstP_all {f : Nat → Int} {n : Nat} (h : frstP f n = none) : ∀ j, j < n → f j = 0 := by
  unfold frstP at h
  rw [List.find?_range_eq_none] at h
  exact fun j hj => by simpa using h j hj
theorem hierE_valid {cs : List Cls} (h : (hierE cs).2 = 0) : cs.length ≤ 64 ∧ ∀ i (hi : i < cs.length), clsE cs i cs[i] = 0 := by
  unfold hierE at h
  split at h
  · cases h
  · rename_i h64
    split at h
    · rename_i k hk
      have := List.find?_some (by unfold frstP at hk; exact hk)
      simp only [decide_eq_true_eq] at this
      exact absurd h this
    · rename_i hn
      exact ⟨by omega, fun i hi => by rw [← clsF_at hi]; exact frstP_all hn i hi⟩
theorem clsE_parts {cs : List Cls} {i : Nat} {c : Cls} (h : clsE cs i c = 0) : (c.fields.length ≤ 16 ∧ c.methods.length ≤ 16) ∧ identB c.name = true ∧ fnd cs c.name = i ∧ (c.super.toList.isEmpty = false → 0 ≤ fnd cs c.super) ∧ (chR cs i).2 = false ∧ (∀ k (hk : k < c.fields.length), fldE cs c.fields (chR cs i).1.tail k c.fields[k] = 0) ∧ ∀ k (hk : k < c.methods.length), mthE cs c.methods (chR cs i).1.tail k c.methods[k] = 0 := by
  unfold clsE at h
  split at h
  · cases h
  rename_i h1
  split at h
  · cases h
  rename_i h2
  split at h
  · cases h
  rename_i h3
  split at h
  · cases h
  rename_i h4
  split at h
  · cases h
  rename_i h5
  split at h
  · rename_i h6; exact absurd h h6
  rename_i h6
  refine ⟨by omega, by simpa using h1, by simpa using h2, fun he => Int.not_lt.1 fun hq => h3 ⟨he, hq⟩, by simpa using h4, fun k hk => ?_, fun k hk => ?_⟩
  · rw [← fldF_at hk]; exact frst_all (by simpa using h6) k hk
  · rw [← mthF_at hk]; exact frst_all h k hk
theorem mthE_parts {cs : List Cls} {ms : List Sg} {T : List Int} {k : Nat} {m : Sg} (h : mthE cs ms T k m = 0) : identB m.name = true ∧ ¬ idxI (isSg m.name) ms < k ∧ m.params.length ≤ 6 ∧ m.params.all (isTy cs) = true ∧ (m.result.toList.isEmpty || isTy cs m.result) = true ∧ clashB cs T m = false := by
  unfold mthE at h
  split at h
  · cases h
  rename_i h1
  split at h
  · cases h
  rename_i h2
  split at h
  · cases h
  rename_i h3
  split at h
  · cases h
  rename_i h4
  split at h
  · cases h
  rename_i h5
  split at h
  · cases h
  rename_i h6
  exact ⟨by simpa using h1, h2, by omega, by simpa using h4, by revert h5; cases (m.result.toList.isEmpty || isTy cs m.result) <;> simp, by simpa using h6⟩
theorem mthN_take {cs : List Cls} {k : Nat} (hk : k < cs.length) : mthN (cs.take (k + 1)) = mthN (cs.take k) + cs[k].methods.length := by
  induction cs generalizing k with
  | nil => simp at hk
  | cons c r ih =>
    cases k with
    | zero => simp [mthN]
    | succ k =>
      have := ih (k := k) (by simpa using hk)
      rw [List.take_succ_cons, List.take_succ_cons, mthN, mthN, this, List.getElem_cons_succ]
      omega

/-- What unitError asks behind the hierarchy. -/
def uniE2 (u : Unt) : Int := if 256 < u.funcs.length then 3 else if u.funcs.length ≠ mthN u.classes then 20 else if u.main < 0 ∨ (u.funcs.length : Int) ≤ u.main then 14 else
  match u.funcs[u.main.toNat]? with
  | some f => if mainB f then 0 else 14
  | none => 14
theorem uniE_pass {u : Unt} (h : (hierE u.classes).2 = 0) : uniE u = uniE2 u := by
  unfold uniE uniE2; rw [if_neg (by simpa using h)]; rfl
def mainB2 (f : Fun) : Bool := f.cls.toList == [77, 97, 105, 110] && (f.name.toList == [109, 97, 105, 110] && (f.static && ((f.nparams == 0) && f.result.toList.isEmpty)))
theorem mainB_def (f : Fun) : mainB f = mainB2 f := by
  unfold mainB mainB2 wMainC wMainM
  rw [dec_beq]
  simp only [Bool.and_assoc]

end Go.Proofs.YtmhdambkchlilaaGreatDoor
