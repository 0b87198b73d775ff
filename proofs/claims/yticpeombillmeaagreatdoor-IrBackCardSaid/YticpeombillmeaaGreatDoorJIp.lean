/-
  Chapter 13: what reading a unit's text gives (plain).
  Chapter 13: a unit is read from its text, and what is read has this text (plain).
  Chapter 13: the text of a valid unit is read as this unit (plain).
  Chapter 13: the text of a valid unit is read as this unit (plain, the second half).
-/
import Derived.Lib.ParseIntB
import Derived.Test.YticpeombillmeaaGreatDoorJIv
namespace Go.Proofs.YticpeombillmeaaGreatDoor
open Go.RowKit
set_option linter.unusedVariables false

/-! ### Numbers -/
def digB (c : UInt8) : Bool := decide (48 ≤ c.toNat) && decide (c.toNat ≤ 57)
def valF (a : Nat) (c : UInt8) : Nat := 10 * a + (c.toNat - 48)
theorem digB_iff {c : UInt8} : digB c = true ↔ 48 ≤ c.toNat ∧ c.toNat ≤ 57 := by
  unfold digB
  simp
theorem dig_byte {d : Nat} (h : d < 10) : (48 + UInt8.ofNat d).toNat = 48 + d := by
  rcases (show d = 0 ∨ d = 1 ∨ d = 2 ∨ d = 3 ∨ d = 4 ∨ d = 5 ∨ d = 6 ∨ d = 7 ∨ d = 8 ∨ d = 9 by omega) with rfl | rfl | rfl | rfl | rfl | rfl | rfl | rfl | rfl | rfl <;> rfl
theorem dig_first {u : Nat} (h : u < 10) : Lib.decDigits u = [48 + UInt8.ofNat u] := by
  rw [Lib.decDigits_one h, UInt8.ofNat_add]
  rfl
theorem dig_next {u : Nat} (h : ¬ u < 10) : Lib.decDigits u = Lib.decDigits (u / 10) ++ [48 + UInt8.ofNat (u % 10)] := by
  rw [Lib.decDigits, dif_neg h, UInt8.ofNat_add]
  rfl
theorem dec_all (u : Nat) : (Lib.decDigits u).all digB = true := by
  induction u using Nat.strongRecOn with
  | ind u ih =>
  by_cases h : u < 10
  · rw [dig_first h]
    have := dig_byte h
    simp only [List.all_cons, List.all_nil, Bool.and_true]
    rw [digB_iff]
    omega
  · rw [dig_next h, List.all_append, ih (u / 10) (by omega)]
    have := dig_byte (show u % 10 < 10 by omega)
    simp only [List.all_cons, List.all_nil, Bool.and_true, Bool.true_and]
    rw [digB_iff]
    omega
theorem dec_val (u : Nat) : (Lib.decDigits u).foldl valF 0 = u := by
  induction u using Nat.strongRecOn with
  | ind u ih =>
  by_cases h : u < 10
  · rw [dig_first h]
    have := dig_byte h
    simp only [List.foldl_cons, List.foldl_nil, valF]
    omega
  · rw [dig_next h, List.foldl_append, ih (u / 10) (by omega)]
    have := dig_byte (show u % 10 < 10 by omega)
    simp only [List.foldl_cons, List.foldl_nil, valF]
    omega
theorem dec_pos (u : Nat) : 1 ≤ (Lib.decDigits u).length := by
  by_cases h : u < 10
  · rw [dig_first h]; simp
  · rw [dig_next h]; simp
theorem valF_ge : ∀ (l : List UInt8) (acc : Nat), acc ≤ l.foldl valF acc
  | [], acc => Nat.le_refl _
  | c :: r, acc => by
    rw [List.foldl_cons]
    exact Nat.le_trans (by unfold valF; omega) (valF_ge r (valF acc c))
theorem parse_digs (M : Nat) (hM : M ≤ 18446744073709551615) : ∀ (l : List UInt8) (acc : Nat), l.all digB = true → l.foldl valF acc ≤ M → l.foldl valF acc < 10000000000000000000 → Lib.parseUintM M acc l = .ok (l.foldl valF acc)
  | [], acc, _, _, _ => rfl
  | c :: r, acc, h, hb, hc => by
    simp only [List.all_cons, Bool.and_eq_true] at h
    obtain ⟨h1, h2⟩ := h
    rw [digB_iff] at h1
    rw [List.foldl_cons] at hb hc ⊢
    have h3 := valF_ge r (valF acc c)
    have e : acc * 10 + (c.toNat - 48) = valF acc c := by unfold valF; omega
    have h5 : valF acc c = 10 * acc + (c.toNat - 48) := rfl
    unfold Lib.parseUintM
    rw [if_pos h1, if_neg (by omega), if_neg (by omega), e]
    exact parse_digs M hM r _ h2 hb hc
/-- The number that a word writes. -/
def numI (s : ByteArray) : Option Int := match Lib.parseIntB 64 (toL s) with
  | .ok v => if dg v = toL s then some v else none
  | _ => none
theorem dg_nat (u : Nat) : dg (u : Int) = Lib.decDigits u := by
  unfold dg Lib.itoa
  rw [if_neg (by omega), Int.toNat_natCast]
theorem dg_neg (u : Nat) (h : 1 ≤ u) : dg (-(u : Int)) = 45 :: Lib.decDigits u := Lib.itoa_neg u h
theorem parseU_dec {u : Nat} (h : u ≤ 9223372036854775808) : Lib.parseUintB 64 (Lib.decDigits u) = .ok u := by
  have h3 := dec_pos u
  unfold Lib.parseUintB
  rw [if_neg (fun e => by rw [e] at h3; simp at h3)]
  have h4 := parse_digs (2 ^ 64 - 1) (by decide) (Lib.decDigits u) 0 (dec_all u) (by rw [dec_val]; omega) (by rw [dec_val]; omega)
  rw [h4, dec_val]
theorem dec_head {u : Nat} {c : UInt8} {r : List UInt8} (h : Lib.decDigits u = c :: r) : 48 ≤ c.toNat ∧ c.toNat ≤ 57 := by
  have := dec_all u
  rw [h] at this
  simp only [List.all_cons, Bool.and_eq_true] at this
  exact digB_iff.1 this.1
theorem parseI_dg {n : Int} (h : I64 n) : Lib.parseIntB 64 (dg n) = .ok n := by
  obtain ⟨h0, h1⟩ := h
  by_cases hn : 0 ≤ n
  · obtain ⟨u, rfl⟩ : ∃ u : Nat, n = u := ⟨n.toNat, by omega⟩
    rw [dg_nat]
    have hp := parseU_dec (u := u) (by omega)
    have h3 := dec_pos u
    cases hl : Lib.decDigits u with
    | nil => rw [hl] at h3; simp at h3
    | cons c r =>
      have hc := dec_head hl
      rw [hl] at hp
      unfold Lib.parseIntB
      simp only
      rw [if_neg (by omega), hp]
      simp only
      rw [if_neg (by rintro ⟨_, h⟩; have : (2 : Nat) ^ (64 - 1) = 9223372036854775808 := by decide
                     omega), if_neg (by rintro ⟨h, _⟩; omega), if_neg (by omega)]
  · obtain ⟨u, rfl⟩ : ∃ u : Nat, n = -(u : Int) := ⟨(-n).toNat, by omega⟩
    rw [dg_neg u (by omega)]
    have hp := parseU_dec (u := u) (by omega)
    unfold Lib.parseIntB
    simp only
    rw [if_pos (Or.inr (by decide)), hp]
    simp only
    rw [if_neg (by rintro ⟨h, _⟩; exact h (by decide)), if_neg (by rintro ⟨_, h⟩; have : (2 : Nat) ^ (64 - 1) = 9223372036854775808 := by decide
                                                                   omega), if_pos (by decide)]
theorem parseI_range {l : List UInt8} {n : Int} (h : Lib.parseIntB 64 l = .ok n) : I64 n := by
  unfold Lib.parseIntB at h
  have h63 : (2 : Nat) ^ (64 - 1) = 9223372036854775808 := by decide
  split at h
  · cases h
  · rename_i c r
    simp only at h
    split at h
    · cases h
    · cases h
    · rename_i u _
      split at h
      · cases h
      rename_i g1
      split at h
      · cases h
      rename_i g2
      injection h with h
      rw [h63] at g1 g2
      unfold I64
      split at h
      · rename_i g3
        have : ¬ 9223372036854775808 < u := fun g => g2 ⟨g3, g⟩
        omega
      · rename_i g3
        have : ¬ 9223372036854775808 ≤ u := fun g => g1 ⟨g3, g⟩
        omega
theorem numI_iff {s : ByteArray} {n : Int} : numI s = some n ↔ I64 n ∧ dg n = toL s := by
  constructor
  · intro h
    unfold numI at h
    split at h
    · rename_i v hv
      split at h
      · rename_i hd
        injection h with h
        subst h
        exact ⟨parseI_range hv, hd⟩
      · cases h
    · cases h
  · rintro ⟨h0, h2⟩
    unfold numI
    rw [← h2, parseI_dg h0]
    simp
theorem numI_dg {n : Int} (h : I64 n) : numI (bsOf (dg n)) = some n := numI_iff.2 ⟨h, (toL_bsOf _).symm⟩

/-! ### Instructions -/
def zIns : Ins := ⟨0, 0, 0, 0, 0, ⟨#[]⟩, ⟨#[]⟩, [], 0, 0⟩
def opOf (w : ByteArray) : Option Nat := namesB.findIdx? fun o => w.toList == o.toList
def operOf (w : ByteArray) : Option Nat := opersB.findIdx? fun o => w.toList == o.toList
/-- A field of an instruction that holds a number. -/
def setN (x : Ins) (c : UInt8) (n : Int) : Ins :=
  if c = 100 then { x with dst := n } else if c = 97 then { x with a := n } else if c = 98 then { x with b := n } else if c = 110 then { x with n := n } else if c = 103 then { x with jmp := n } else x
def setF (x : Ins) (c : UInt8) (w : ByteArray) : Option Ins :=
  if c = 99 then some { x with cls := w } else if c = 109 then some { x with name := w } else if c = 111 then (operOf w).map fun (k : Nat) => { x with n := 1 + (k : Int) }
  else (numI w).map (setN x c)
def setL : Ins → List UInt8 → List ByteArray → Option Ins
  | x, [], _ => some x
  | x, c :: f, [] => none
  | x, c :: f, w :: r => match setF x c w with
    | some y => setL y f r
    | none => none
def numsL : List ByteArray → Option (List Int)
  | [] => some []
  | w :: r => match numI w with
    | none => none
    | some n => match numsL r with
      | none => none
      | some l => some (n :: l)
/-- The letters of an operation without the star. -/
def letF (k : Nat) : List UInt8 := ((formL[k]?).getD []).filter fun c => decide (c ≠ 42)
def manyF (k : Nat) : Bool := ((formL[k]?).getD []).contains 42
def insP (ws : List ByteArray) : Option Ins := match ws with
  | w0 :: w1 :: rest => match numI w0 with
    | none => none
    | some h => match opOf w1 with
      | none => none
      | some k =>
        if rest.length < (letF k).length ∨ (manyF k = false ∧ (letF k).length < rest.length) then none else
        match setL { zIns with op := k, hnd := h } (letF k) rest with
        | none => none
        | some x => match numsL (rest.drop (letF k).length) with
          | none => none
          | some l => some { x with args := l }
  | _ => none

/-! ### Lines -/
structure RdI where
  cs : List Cls
  fs : List Fun
  pl : Nat
def modLast {α : Type} (f : α → α) : List α → List α
  | [] => []
  | [x] => [f x]
  | x :: y :: r => x :: modLast f (y :: r)
theorem modLast_snoc {α : Type} (f : α → α) (l : List α) (x : α) : modLast f (l ++ [x]) = l ++ [f x] := by
  induction l with
  | nil => rfl
  | cons a l ih =>
    cases l with
    | nil => rfl
    | cons b l => exact congrArg (a :: ·) ih
def wd (ws : List ByteArray) (i : Nat) : ByteArray := ws.getD i ⟨#[]⟩
def clsP (ws : List ByteArray) : Cls := ⟨wd ws 1, wd ws 2, [], []⟩
def fldP (ws : List ByteArray) : Fld := ⟨wd ws 1, wd ws 2⟩
def mthP (ws : List ByteArray) : Sg := ⟨wd ws 1, (wd ws 2).toList == wStat, ws.drop 4, if (wd ws 3).toList == [45] then ⟨#[]⟩ else wd ws 3⟩
def funP (ws : List ByteArray) : Fun := ⟨wd ws 1, wd ws 2, false, 0, [], ⟨#[]⟩, []⟩
def lineP (r : RdI) (ws : List ByteArray) : Option RdI :=
  if (wd ws 0).toList == wClass then if 2 ≤ ws.length ∧ ws.length ≤ 3 ∧ r.pl ≤ 3 then some ⟨r.cs ++ [clsP ws], r.fs, 1⟩ else none
  else if (wd ws 0).toList == wField then if ws.length = 3 ∧ 1 ≤ r.pl ∧ r.pl ≤ 2 then some ⟨modLast (fun c => { c with fields := c.fields ++ [fldP ws] }) r.cs, r.fs, 2⟩ else none
  else if (wd ws 0).toList == wMethod then if 4 ≤ ws.length ∧ 1 ≤ r.pl ∧ r.pl ≤ 3 ∧ ((wd ws 2).toList == wStat || (wd ws 2).toList == wVirt) = true then some ⟨modLast (fun c => { c with methods := c.methods ++ [mthP ws] }) r.cs, r.fs, 3⟩ else none
  else if (wd ws 0).toList == wFunc then if ws.length = 3 ∧ r.pl ≤ 6 then some ⟨r.cs, r.fs ++ [funP ws], 4⟩ else none
  else if (wd ws 0).toList == wVar then if ws.length = 3 ∧ 4 ≤ r.pl ∧ r.pl ≤ 5 then some ⟨r.cs, modLast (fun f => { f with vars := f.vars ++ [fldP ws] }) r.fs, 5⟩ else none
  else match insP ws with
    | none => none
    | some x => if 4 ≤ r.pl ∧ r.pl ≤ 6 then some ⟨r.cs, modLast (fun f => { f with code := f.code ++ [x] }) r.fs, 6⟩ else none

/-! ### The text -/
def wrdsL (line : List UInt8) : List ByteArray := (spl 32 line).map bsOf
/-- One line of the text: the state behind it and the rest. -/
def stepI (r : RdI) (l : List UInt8) : Option (RdI × List UInt8) :=
  if (Lib.cut l [10]).2.2 = false ∨ (wrdsL (Lib.cut l [10]).1).any (fun x => x.toList == []) = true then none else
  match lineP r (wrdsL (Lib.cut l [10]).1) with
  | none => none
  | some r' => some (r', (Lib.cut l [10]).2.1)
def parsL : Nat → RdI → List UInt8 → Option RdI
  | 0, r, l => if l = [] then some r else none
  | k + 1, r, l => if l = [] then some r else match stepI r l with
    | none => none
    | some (r', l') => parsL k r' l'
def methodOf (cs : List Cls) (cl m : ByteArray) : Option Sg := cs.findSome? fun c => if (c.name.toList == cl.toList) = true then c.methods.find? (isSg m) else none
def complF (cs : List Cls) (f : Fun) : Fun := match methodOf cs f.cls f.name with
  | none => f
  | some m => { f with static := m.static, nparams := if m.static then (m.params.length : Int) else m.params.length + 1, result := m.result }
def isFun (c m : ByteArray) (f : Fun) : Bool := f.cls.toList == c.toList && f.name.toList == m.toList
def findU (fs : List Fun) (c m : ByteArray) : Int := idxI (isFun c m) fs
def complU (r : RdI) : Unt := ⟨r.cs, r.fs.map (complF r.cs), findU (r.fs.map (complF r.cs)) (bsOf wMainC) (bsOf wMainM)⟩
def parseU (s : ByteArray) : Option Unt := if 65536 < s.size then none else
  match parsL s.size ⟨[], [], 0⟩ (toL s) with
  | none => none
  | some r => if (chkE (complU r)).2.2 = 0 then some (complU r) else none
end Go.Proofs.YticpeombillmeaaGreatDoor
namespace Go.Proofs.YticpeombillmeaaGreatDoor
open Go.RowKit
set_option linter.unusedVariables false

/-! ### Lines and words -/
theorem join_glue (ws : List (List UInt8)) : Lib.join ws [32] = glue 32 ws := by
  cases ws with
  | nil => rfl
  | cons a l =>
    rw [Lib.join_cons, joinTail_flat]
    induction l generalizing a with
    | nil => simp [glue]
    | cons b t ih => rw [glue, ← ih, List.flatMap_cons]; simp
theorem lnT_glue (ws : List ByteArray) : lnT ws = glue 32 (ws.map toL) ++ [10] := by unfold lnT lineT; rw [join_glue]
theorem map_bs (l : List ByteArray) : (l.map toL).map bsOf = l := by
  rw [List.map_map]
  have : (bsOf ∘ toL) = id := by funext x; exact mk_toL x
  rw [this, List.map_id]
theorem map_toL_bs (l : List (List UInt8)) : (l.map bsOf).map toL = l := by
  rw [List.map_map]
  have : (toL ∘ bsOf) = id := by funext x; rfl
  rw [this, List.map_id]
theorem lnT_wrds (line : List UInt8) : lnT (wrdsL line) = line ++ [10] := by
  rw [lnT_glue]
  unfold wrdsL
  rw [map_toL_bs, glue_spl]
/-- Words that a line may hold. -/
structure WdOk (s : ByteArray) : Prop where
  ne : toL s ≠ []
  sp : (32 : UInt8) ∉ toL s
  nl : (10 : UInt8) ∉ toL s
theorem mem_glue {c d : UInt8} : ∀ {ls : List (List UInt8)}, d ≠ c → (∀ x ∈ ls, d ∉ x) → d ∉ glue c ls
  | [], _, _ => by simp [glue]
  | [x], _, h => by simpa [glue] using h x (by simp)
  | x :: y :: r, hd, h => by
    have ih := mem_glue (ls := y :: r) hd (fun z hz => h z (by simp [hz]))
    rw [glue, List.mem_append, List.mem_cons]
    rintro (h1 | h1 | h1)
    · exact h x (by simp) h1
    · exact hd h1
    · exact ih h1
theorem toList_toL (x : ByteArray) : x.toList = toL x := by unfold toL; rw [ByteArray.toList_eq]
theorem eqW {x : ByteArray} {l : List UInt8} : (x.toList == l) = true ↔ x = bsOf l := by
  rw [beq_iff_eq, toList_toL]
  exact ⟨fun h => bsOf_toL h, fun h => by rw [h]; rfl⟩
theorem stepI_line {r r' : RdI} {ws : List ByteArray} {t : List UInt8} (h0 : ws ≠ []) (hw : ∀ x ∈ ws, WdOk x) (h : lineP r ws = some r') : stepI r (lnT ws ++ t) = some (r', t) := by
  have h10 : (10 : UInt8) ∉ glue 32 (ws.map toL) := mem_glue (by decide) fun x hx => by
    obtain ⟨y, hy, rfl⟩ := List.mem_map.1 hx
    exact (hw y hy).nl
  have hc : Lib.cut (lnT ws ++ t) [10] = (glue 32 (ws.map toL), t, true) := by
    rw [lnT_glue, List.append_assoc]
    exact cut_mid h10
  have hs : wrdsL (glue 32 (ws.map toL)) = ws := by
    unfold wrdsL
    rw [spl_glue (by simpa using h0) (fun x hx => by
      obtain ⟨y, hy, rfl⟩ := List.mem_map.1 hx
      exact (hw y hy).sp), map_bs]
  unfold stepI
  rw [hc]
  simp only
  rw [hs, if_neg, h]
  rintro (h1 | h1)
  · cases h1
  · obtain ⟨x, hx, he⟩ := List.any_eq_true.1 h1
    rw [beq_iff_eq, toList_toL] at he
    exact (hw x hx).ne he
theorem stepI_back {r r' : RdI} {l l' : List UInt8} (h : stepI r l = some (r', l')) : ∃ ws, ws ≠ [] ∧ (∀ x ∈ ws, toL x ≠ []) ∧ lineP r ws = some r' ∧ l = lnT ws ++ l' := by
  unfold stepI at h
  split at h
  · cases h
  rename_i h1
  rcases spl_cases 10 l with ⟨h2, _⟩ | ⟨a, t, rfl, ha, _⟩
  · rw [cut_free h2] at h1
    exact absurd (Or.inl rfl) h1
  rw [cut_mid ha] at h1 h
  simp only at h1 h
  split at h
  · cases h
  rename_i r2 hr
  injection h with h
  injection h with e1 e2
  subst e1 e2
  refine ⟨wrdsL a, ?_, fun x hx he => h1 (Or.inr (List.any_eq_true.2 ⟨x, hx, by rw [beq_iff_eq, toList_toL]; exact he⟩)), hr, ?_⟩
  · unfold wrdsL
    simpa using spl_ne 32 a
  · rw [lnT_wrds]
    simp

/-! ### Instructions: what is read has these words -/
/-- Which field a letter means. -/
def tagF (c : UInt8) : Nat := if c = 100 then 1 else if c = 97 then 2 else if c = 98 then 3 else if c = 110 then 4 else if c = 111 then 4 else if c = 99 then 5 else if c = 109 then 6 else if c = 103 then 7 else if c = 42 then 8 else 0
def Ltr (c : UInt8) : Prop := c = 100 ∨ c = 97 ∨ c = 98 ∨ c = 110 ∨ c = 111 ∨ c = 99 ∨ c = 109 ∨ c = 103
theorem findIdx_at {l : List ByteArray} {w : ByteArray} {k : Nat} (h : l.findIdx? (fun o => w.toList == o.toList) = some k) : l[k]? = some w := by
  obtain ⟨hk, h1, _⟩ := List.findIdx?_eq_some_iff_getElem.1 h
  rw [List.getElem?_eq_getElem hk, eqS_iff.1 h1]
theorem setF_op {x : Ins} {w : ByteArray} : setF x 111 w = (operOf w).map (fun (k : Nat) => { x with n := 1 + (k : Int) }) := by
  unfold setF
  rw [if_neg (by decide), if_neg (by decide), if_pos rfl]
theorem setF_same {x y : Ins} {c : UInt8} {w : ByteArray} (hc : Ltr c) (h : setF x c w = some y) : fieldW y c = [w] := by
  have hn : ∀ {n : Int}, numI w = some n → bsOf (dg n) = w := fun h => (bsOf_toL (numI_iff.1 h).2.symm).symm
  rcases hc with rfl | rfl | rfl | rfl | rfl | rfl | rfl | rfl
  · obtain ⟨n, h1, rfl⟩ := Option.map_eq_some_iff.1 (show (numI w).map (setN x 100) = some y from h)
    exact congrArg (fun z => [z]) (hn h1)
  · obtain ⟨n, h1, rfl⟩ := Option.map_eq_some_iff.1 (show (numI w).map (setN x 97) = some y from h)
    exact congrArg (fun z => [z]) (hn h1)
  · obtain ⟨n, h1, rfl⟩ := Option.map_eq_some_iff.1 (show (numI w).map (setN x 98) = some y from h)
    exact congrArg (fun z => [z]) (hn h1)
  · obtain ⟨n, h1, rfl⟩ := Option.map_eq_some_iff.1 (show (numI w).map (setN x 110) = some y from h)
    exact congrArg (fun z => [z]) (hn h1)
  · obtain ⟨k, h1, rfl⟩ := Option.map_eq_some_iff.1 (setF_op ▸ h)
    show [(opersB[(1 + (k : Int) - 1).toNat]?).getD ByteArray.empty] = [w]
    rw [show (1 + (k : Int) - 1).toNat = k by omega, findIdx_at h1]
    rfl
  · injection (show some { x with cls := w } = some y from h) with h; subst h; rfl
  · injection (show some { x with name := w } = some y from h) with h; subst h; rfl
  · obtain ⟨n, h1, rfl⟩ := Option.map_eq_some_iff.1 (show (numI w).map (setN x 103) = some y from h)
    exact congrArg (fun z => [z]) (hn h1)
theorem setF_keep {x y : Ins} {c : UInt8} {w : ByteArray} (hc : Ltr c) (h : setF x c w = some y) : y.op = x.op ∧ y.hnd = x.hnd ∧ y.args = x.args := by
  rcases hc with rfl | rfl | rfl | rfl | rfl | rfl | rfl | rfl
  · obtain ⟨n, h1, rfl⟩ := Option.map_eq_some_iff.1 (show (numI w).map (setN x 100) = some y from h); exact ⟨rfl, rfl, rfl⟩
  · obtain ⟨n, h1, rfl⟩ := Option.map_eq_some_iff.1 (show (numI w).map (setN x 97) = some y from h); exact ⟨rfl, rfl, rfl⟩
  · obtain ⟨n, h1, rfl⟩ := Option.map_eq_some_iff.1 (show (numI w).map (setN x 98) = some y from h); exact ⟨rfl, rfl, rfl⟩
  · obtain ⟨n, h1, rfl⟩ := Option.map_eq_some_iff.1 (show (numI w).map (setN x 110) = some y from h); exact ⟨rfl, rfl, rfl⟩
  · obtain ⟨k, h1, rfl⟩ := Option.map_eq_some_iff.1 (setF_op ▸ h); exact ⟨rfl, rfl, rfl⟩
  · injection (show some { x with cls := w } = some y from h) with h; subst h; exact ⟨rfl, rfl, rfl⟩
  · injection (show some { x with name := w } = some y from h) with h; subst h; exact ⟨rfl, rfl, rfl⟩
  · obtain ⟨n, h1, rfl⟩ := Option.map_eq_some_iff.1 (show (numI w).map (setN x 103) = some y from h); exact ⟨rfl, rfl, rfl⟩
theorem fieldW_of {x y : Ins} {d : UInt8} (hd : Ltr d) (h1 : tagF d = 1 → y.dst = x.dst) (h2 : tagF d = 2 → y.a = x.a) (h3 : tagF d = 3 → y.b = x.b) (h4 : tagF d = 4 → y.n = x.n) (h5 : tagF d = 5 → y.cls = x.cls) (h6 : tagF d = 6 → y.name = x.name) (h7 : tagF d = 7 → y.jmp = x.jmp) : fieldW y d = fieldW x d := by
  rcases hd with rfl | rfl | rfl | rfl | rfl | rfl | rfl | rfl
  · exact congrArg (fun z => [bsOf (dg z)]) (h1 rfl)
  · exact congrArg (fun z => [bsOf (dg z)]) (h2 rfl)
  · exact congrArg (fun z => [bsOf (dg z)]) (h3 rfl)
  · exact congrArg (fun z => [bsOf (dg z)]) (h4 rfl)
  · exact congrArg (fun z : Int => [(opersB[(z - 1).toNat]?).getD ByteArray.empty]) (h4 rfl)
  · exact congrArg (fun z => [z]) (h5 rfl)
  · exact congrArg (fun z => [z]) (h6 rfl)
  · exact congrArg (fun z => [bsOf (dg z)]) (h7 rfl)
theorem setF_other {x y : Ins} {c d : UInt8} {w : ByteArray} (hc : Ltr c) (hd : Ltr d) (hne : tagF d ≠ tagF c) (h : setF x c w = some y) : fieldW y d = fieldW x d := by
  rcases hc with rfl | rfl | rfl | rfl | rfl | rfl | rfl | rfl
  · obtain ⟨n, h1, rfl⟩ := Option.map_eq_some_iff.1 (show (numI w).map (setN x 100) = some y from h)
    exact fieldW_of hd (fun e => absurd e hne) (fun _ => rfl) (fun _ => rfl) (fun _ => rfl) (fun _ => rfl) (fun _ => rfl) (fun _ => rfl)
  · obtain ⟨n, h1, rfl⟩ := Option.map_eq_some_iff.1 (show (numI w).map (setN x 97) = some y from h)
    exact fieldW_of hd (fun _ => rfl) (fun e => absurd e hne) (fun _ => rfl) (fun _ => rfl) (fun _ => rfl) (fun _ => rfl) (fun _ => rfl)
  · obtain ⟨n, h1, rfl⟩ := Option.map_eq_some_iff.1 (show (numI w).map (setN x 98) = some y from h)
    exact fieldW_of hd (fun _ => rfl) (fun _ => rfl) (fun e => absurd e hne) (fun _ => rfl) (fun _ => rfl) (fun _ => rfl) (fun _ => rfl)
  · obtain ⟨n, h1, rfl⟩ := Option.map_eq_some_iff.1 (show (numI w).map (setN x 110) = some y from h)
    exact fieldW_of hd (fun _ => rfl) (fun _ => rfl) (fun _ => rfl) (fun e => absurd e hne) (fun _ => rfl) (fun _ => rfl) (fun _ => rfl)
  · obtain ⟨k, h1, rfl⟩ := Option.map_eq_some_iff.1 (setF_op ▸ h)
    exact fieldW_of hd (fun _ => rfl) (fun _ => rfl) (fun _ => rfl) (fun e => absurd e hne) (fun _ => rfl) (fun _ => rfl) (fun _ => rfl)
  · injection (show some { x with cls := w } = some y from h) with h; subst h
    exact fieldW_of hd (fun _ => rfl) (fun _ => rfl) (fun _ => rfl) (fun _ => rfl) (fun e => absurd e hne) (fun _ => rfl) (fun _ => rfl)
  · injection (show some { x with name := w } = some y from h) with h; subst h
    exact fieldW_of hd (fun _ => rfl) (fun _ => rfl) (fun _ => rfl) (fun _ => rfl) (fun _ => rfl) (fun e => absurd e hne) (fun _ => rfl)
  · obtain ⟨n, h1, rfl⟩ := Option.map_eq_some_iff.1 (show (numI w).map (setN x 103) = some y from h)
    exact fieldW_of hd (fun _ => rfl) (fun _ => rfl) (fun _ => rfl) (fun _ => rfl) (fun _ => rfl) (fun _ => rfl) (fun e => absurd e hne)
theorem setL_other {d : UInt8} (hd : Ltr d) : ∀ {f : List UInt8} {x y : Ins} {ws : List ByteArray}, (∀ c ∈ f, Ltr c) → (∀ c ∈ f, tagF c ≠ tagF d) → setL x f ws = some y → fieldW y d = fieldW x d
  | [], x, y, ws, _, _, h => by injection (show some x = some y from h) with h; rw [h]
  | c :: f, x, y, [], _, _, h => by cases h
  | c :: f, x, y, w :: r, hl, ht, h => by
    unfold setL at h
    split at h
    · rename_i z hz
      rw [setL_other hd (fun c hc => hl c (by simp [hc])) (fun c hc => ht c (by simp [hc])) h]
      exact setF_other (hl c (by simp)) hd (fun e => ht c (by simp) e.symm) hz
    · cases h
theorem setL_keep : ∀ {f : List UInt8} {x y : Ins} {ws : List ByteArray}, (∀ c ∈ f, Ltr c) → setL x f ws = some y → y.op = x.op ∧ y.hnd = x.hnd ∧ y.args = x.args
  | [], x, y, ws, _, h => by injection (show some x = some y from h) with h; rw [h]; exact ⟨rfl, rfl, rfl⟩
  | c :: f, x, y, [], _, h => by cases h
  | c :: f, x, y, w :: r, hl, h => by
    unfold setL at h
    split at h
    · rename_i z hz
      obtain ⟨a1, a2, a3⟩ := setL_keep (fun c hc => hl c (by simp [hc])) h
      obtain ⟨b1, b2, b3⟩ := setF_keep (hl c (by simp)) hz
      exact ⟨a1.trans b1, a2.trans b2, a3.trans b3⟩
    · cases h
theorem setL_back : ∀ {f : List UInt8} {x y : Ins} {ws : List ByteArray}, (∀ c ∈ f, Ltr c) → (f.map tagF).Nodup → setL x f ws = some y → f.flatMap (fieldW y) = ws.take f.length
  | [], x, y, ws, _, _, h => by simp
  | c :: f, x, y, [], _, _, h => by cases h
  | c :: f, x, y, w :: r, hl, hn, h => by
    unfold setL at h
    split at h
    · rename_i z hz
      rw [List.map_cons, List.nodup_cons] at hn
      have h1 := setL_back (fun c hc => hl c (by simp [hc])) hn.2 h
      have h2 := setL_other (d := c) (hl c (by simp)) (fun c hc => hl c (by simp [hc])) (fun e he ht => hn.1 (by rw [← ht]; exact List.mem_map_of_mem he)) h
      rw [List.flatMap_cons, h1, h2, setF_same (hl c (by simp)) hz, List.length_cons, List.take_succ_cons]
      rfl
    · cases h
theorem numsL_back : ∀ {ws : List ByteArray} {l : List Int}, numsL ws = some l → l.map (fun v => bsOf (dg v)) = ws
  | [], l, h => by injection (show some [] = some l from h) with h; rw [← h]; rfl
  | w :: r, l, h => by
    unfold numsL at h
    split at h
    · cases h
    rename_i n hn
    split at h
    · cases h
    rename_i t ht
    injection h with h
    subst h
    rw [List.map_cons, numsL_back ht, bsOf_toL (numI_iff.1 hn).2.symm]
theorem form_facts : ∀ k, k < 17 → (∀ c ∈ letF k, c = 100 ∨ c = 97 ∨ c = 98 ∨ c = 110 ∨ c = 111 ∨ c = 99 ∨ c = 109 ∨ c = 103) ∧ ((letF k).map tagF).Nodup ∧ (formL[k]?).getD [] = letF k ++ (if manyF k then [42] else []) := by decide
theorem insP_back {ws : List ByteArray} {x : Ins} (h : insP ws = some x) : insW x = ws := by
  unfold insP at h
  split at h
  · rename_i w0 w1 rest
    split at h
    · cases h
    rename_i hn hh
    split at h
    · cases h
    rename_i k hk
    split at h
    · cases h
    rename_i hlen
    split at h
    · cases h
    rename_i y hy
    split at h
    · cases h
    rename_i l hl
    injection h with h
    subst h
    have hkn := findIdx_at hk
    have hk17 : k < 17 := (List.getElem?_eq_some_iff.1 hkn).1
    obtain ⟨f1, f2, f3⟩ := form_facts k hk17
    obtain ⟨o1, o2, o3⟩ := setL_keep f1 hy
    have o1' : y.op = k := o1
    have o2' : y.hnd = hn := o2
    have hb := setL_back f1 f2 hy
    have hf : ∀ c ∈ letF k, fieldW { y with args := l } c = fieldW y c := fun c hc => fieldW_of (f1 c hc) (fun _ => rfl) (fun _ => rfl) (fun _ => rfl) (fun _ => rfl) (fun _ => rfl) (fun _ => rfl) (fun _ => rfl)
    have hs : fieldW { y with args := l } 42 = l.map (fun v => bsOf (dg v)) := rfl
    have hop : ({ y with args := l } : Ins).op = k := o1'
    have hhn : ({ y with args := l } : Ins).hnd = hn := o2'
    generalize ({ y with args := l } : Ins) = Y at *
    unfold insW formOf
    rw [hop, hhn, Int.toNat_natCast, hkn, f3, List.flatMap_append]
    have e1 : (letF k).flatMap (fieldW Y) = rest.take (letF k).length := by
      rw [← hb]
      have : ∀ (f : List UInt8), (∀ c ∈ f, fieldW Y c = fieldW y c) → f.flatMap (fieldW Y) = f.flatMap (fieldW y) := fun f => by
        induction f with
        | nil => intro _; rfl
        | cons c f ih => intro h; rw [List.flatMap_cons, List.flatMap_cons, h c (by simp), ih (fun d hd => h d (by simp [hd]))]
      exact this _ hf
    have e2 : (if manyF k = true then [(42 : UInt8)] else []).flatMap (fieldW Y) = rest.drop (letF k).length := by
      have hlb := numsL_back hl
      cases hm : manyF k with
      | true =>
        rw [if_pos rfl, List.flatMap_cons, List.flatMap_nil, List.append_nil, hs, hlb]
      | false =>
        rw [if_neg (by simp)]
        have : rest.length ≤ (letF k).length := by
          rcases Nat.lt_or_ge (letF k).length rest.length with h | h
          · exact absurd (Or.inr ⟨hm, h⟩) hlen
          · exact h
        rw [List.drop_eq_nil_of_le this]
        rfl
    rw [e1, e2, List.take_append_drop, ← bsOf_toL (numI_iff.1 hh).2.symm]
    rfl
  · cases h

/-! ### Lines: what is read has this text -/
structure RdOk (r : RdI) : Prop where
  z : r.pl = 0 → r.cs = []
  c : 1 ≤ r.pl → r.pl ≤ 3 → ∃ l c, r.cs = l ++ [c] ∧ (r.pl ≤ 2 → c.methods = []) ∧ (r.pl ≤ 1 → c.fields = [])
  f0 : r.pl ≤ 3 → r.fs = []
  f : 4 ≤ r.pl → ∃ l f, r.fs = l ++ [f] ∧ (r.pl ≤ 5 → f.code = [])
  top : r.pl ≤ 6
def txtR (r : RdI) : List UInt8 := r.cs.flatMap clsT ++ r.fs.flatMap funT
theorem wd_at {ws : List ByteArray} {i : Nat} (h : i < ws.length) : wd ws i = ws[i] := by unfold wd; rw [List.getD_eq_getElem?_getD, List.getElem?_eq_getElem h]; rfl
theorem three_w {ws : List ByteArray} (h : ws.length = 3) : ws = [wd ws 0, wd ws 1, wd ws 2] := by
  match ws, h with
  | [a, b, c], _ => rfl
theorem lineP_txt {r r' : RdI} {ws : List ByteArray} (hr : RdOk r) (hne : ∀ x ∈ ws, toL x ≠ []) (h : lineP r ws = some r') : RdOk r' ∧ txtR r' = txtR r ++ lnT ws := by
  obtain ⟨cs, fs, pl⟩ := r
  unfold lineP at h
  split at h
  · rename_i hw
    split at h
    · rename_i hc
      injection h with h; subst h
      simp only at hc
      have hfs : fs = [] := hr.f0 hc.2.2
      subst hfs
      refine ⟨⟨fun h => (by cases h), fun _ _ => ⟨cs, clsP ws, rfl, fun _ => rfl, fun _ => rfl⟩, fun _ => rfl, fun h => by simp at h, by simp⟩, ?_⟩
      have e : clsW (clsP ws) = ws := by
        have hw := eqW.1 hw
        rcases (show ws.length = 2 ∨ ws.length = 3 by omega) with h2 | h3
        · match ws, h2 with
          | [a, b], _ =>
            have hw : a = bsOf wClass := hw
            subst hw
            show (if (⟨#[]⟩ : ByteArray).toList.isEmpty = true then _ else _) = _
            rw [if_pos (by rw [toList_toL]; rfl)]
            rfl
        · match ws, h3 with
          | [a, b, c], _ =>
            have hw : a = bsOf wClass := hw
            subst hw
            have h3 : c.toList.isEmpty = false := by
              have := hne c (by simp)
              rw [toList_toL]
              cases hq : toL c with
              | nil => exact absurd hq this
              | cons _ _ => rfl
            show (if c.toList.isEmpty = true then _ else _) = _
            rw [if_neg (by rw [h3]; simp)]
            rfl
      unfold txtR clsT
      simp only [List.flatMap_append, List.flatMap_cons, List.flatMap_nil, List.append_nil, e]
      show _ ++ (lnT ws ++ ([] : List Fld).flatMap fldT ++ ([] : List Sg).flatMap mthT) = _
      simp
    · cases h
  split at h
  · rename_i _ hw
    split at h
    · rename_i hc
      injection h with h; subst h
      simp only at hc
      obtain ⟨l, c, rfl, hm, _⟩ := hr.c hc.2.1 (Nat.le_trans hc.2.2 (by decide))
      have hfs : fs = [] := hr.f0 (Nat.le_trans hc.2.2 (by decide))
      subst hfs
      have hm := hm hc.2.2
      simp only [modLast_snoc]
      refine ⟨⟨fun h => (by cases h), fun _ _ => ⟨l, _, rfl, fun _ => hm, fun h => by simp at h⟩, fun _ => rfl, fun h => by simp at h, by simp⟩, ?_⟩
      have e : fldW (fldP ws) = ws := by
        conv => rhs; rw [three_w hc.1]
        show [bsOf wField, wd ws 1, wd ws 2] = _
        rw [eqW.1 hw]
      have e2 : ∀ ms : List Sg, clsW { name := c.name, super := c.super, fields := c.fields ++ [fldP ws], methods := ms } = clsW c := fun _ => rfl
      unfold txtR clsT
      simp only [List.flatMap_append, List.flatMap_cons, List.flatMap_nil, List.append_nil, e2, hm, fldT, e, List.append_assoc]
    · cases h
  split at h
  · rename_i _ _ hw
    split at h
    · rename_i hc
      injection h with h; subst h
      simp only at hc
      obtain ⟨l, c, rfl, _, _⟩ := hr.c hc.2.1 hc.2.2.1
      have hfs : fs = [] := hr.f0 hc.2.2.1
      subst hfs
      simp only [modLast_snoc]
      refine ⟨⟨fun h => (by cases h), fun _ _ => ⟨l, _, rfl, fun h => by simp at h, fun h => by simp at h⟩, fun _ => rfl, fun h => by simp at h, by simp⟩, ?_⟩
      have e : mthW (mthP ws) = ws := by
        match ws, hc.1 with
        | a :: b :: c :: d :: ps, _ =>
          have hw : a = bsOf wMethod := eqW.1 hw
          subst hw
          have h3 : (c.toList == wStat || c.toList == wVirt) = true := hc.2.2.2
          have e3 : bsOf (if (c.toList == wStat) = true then wStat else wVirt) = c := by
            cases hq : (c.toList == wStat) with
            | true => rw [if_pos rfl]; exact (eqW.1 hq).symm
            | false =>
              rw [hq, Bool.false_or] at h3
              rw [if_neg (by simp)]; exact (eqW.1 h3).symm
          have e4 : (if ((if (d.toList == [45]) = true then (⟨#[]⟩ : ByteArray) else d).toList.isEmpty) = true then bsOf [45] else (if (d.toList == [45]) = true then (⟨#[]⟩ : ByteArray) else d)) = d := by
            cases hq : (d.toList == [45]) with
            | true => rw [if_pos rfl, if_pos (by rw [toList_toL]; rfl)]; exact (eqW.1 hq).symm
            | false =>
              have hd := hne d (by simp)
              have hd2 : ¬ d.toList.isEmpty = true := by
                rw [toList_toL]
                cases hq : toL d with
                | nil => exact absurd hq hd
                | cons _ _ => simp
              simp only [Bool.false_eq_true, if_false, if_neg hd2]
          show [bsOf wMethod, b, bsOf (if (c.toList == wStat) = true then wStat else wVirt), if ((if (d.toList == [45]) = true then (⟨#[]⟩ : ByteArray) else d).toList.isEmpty) = true then bsOf [45] else (if (d.toList == [45]) = true then (⟨#[]⟩ : ByteArray) else d)] ++ ps = _
          rw [e3, e4]
          rfl
      have e2 : clsW { c with methods := c.methods ++ [mthP ws] } = clsW c := rfl
      unfold txtR clsT
      simp only [List.flatMap_append, List.flatMap_cons, List.flatMap_nil, List.append_nil, e2, mthT, e, List.append_assoc]
    · cases h
  split at h
  · rename_i _ _ _ hw
    split at h
    · rename_i hc
      injection h with h; subst h
      refine ⟨⟨fun h => (by cases h), fun _ h => by simp at h, fun h => by simp at h, fun _ => ⟨fs, funP ws, rfl, fun _ => rfl⟩, by simp⟩, ?_⟩
      have e : funW (funP ws) = ws := by
        conv => rhs; rw [three_w hc.1]
        show [bsOf wFunc, wd ws 1, wd ws 2] = _
        rw [eqW.1 hw]
      unfold txtR funT
      simp only [List.flatMap_append, List.flatMap_cons, List.flatMap_nil, List.append_nil, e, List.append_assoc]
      show _ ++ (_ ++ (lnT ws ++ (([] : List Fld).flatMap varT ++ ([] : List Ins).flatMap insTx))) = _
      simp
    · cases h
  split at h
  · rename_i _ _ _ _ hw
    split at h
    · rename_i hc
      injection h with h; subst h
      simp only at hc
      obtain ⟨l, f, rfl, hcode⟩ := hr.f hc.2.1
      have hcode := hcode hc.2.2
      simp only [modLast_snoc]
      refine ⟨⟨fun h => (by cases h), fun _ h => by simp at h, fun h => by simp at h, fun _ => ⟨l, _, rfl, fun _ => hcode⟩, by simp⟩, ?_⟩
      have e : varW (fldP ws) = ws := by
        conv => rhs; rw [three_w hc.1]
        show [bsOf wVar, wd ws 1, wd ws 2] = _
        rw [eqW.1 hw]
      have e2 : ∀ xs : List Ins, funW { cls := f.cls, name := f.name, static := f.static, nparams := f.nparams, vars := f.vars ++ [fldP ws], result := f.result, code := xs } = funW f := fun _ => rfl
      unfold txtR funT
      simp only [List.flatMap_append, List.flatMap_cons, List.flatMap_nil, List.append_nil, e2, hcode, varT, e, List.append_assoc]
    · cases h
  split at h
  · cases h
  rename_i x hx
  split at h
  · rename_i hc
    injection h with h; subst h
    simp only at hc
    obtain ⟨l, f, rfl, _⟩ := hr.f hc.1
    simp only [modLast_snoc]
    refine ⟨⟨fun h => (by cases h), fun _ h => by simp at h, fun h => by simp at h, fun _ => ⟨l, _, rfl, fun h => by simp at h⟩, by simp⟩, ?_⟩
    have e2 : funW { f with code := f.code ++ [x] } = funW f := rfl
    unfold txtR funT
    simp only [List.flatMap_append, List.flatMap_cons, List.flatMap_nil, List.append_nil, e2, insTx, insP_back hx, List.append_assoc]
  · cases h
theorem parsL_txt : ∀ {k : Nat} {r r' : RdI} {l : List UInt8}, RdOk r → parsL k r l = some r' → txtR r' = txtR r ++ l
  | 0, r, r', l, hr, h => by
    unfold parsL at h
    split at h
    · rename_i hl
      injection h with h
      rw [← h, hl, List.append_nil]
    · cases h
  | k + 1, r, r', l, hr, h => by
    unfold parsL at h
    split at h
    · rename_i hl
      injection h with h
      rw [← h, hl, List.append_nil]
    · split at h
      · cases h
      · rename_i r2 l2 hs
        obtain ⟨ws, h1, h2, h3, rfl⟩ := stepI_back hs
        obtain ⟨h4, h5⟩ := lineP_txt hr h2 h3
        rw [parsL_txt h4 h, h5, List.append_assoc]
theorem rdOk_zero : RdOk ⟨[], [], 0⟩ := ⟨fun _ => rfl, fun h => by simp at h, fun _ => rfl, fun h => by simp at h, by simp⟩
theorem funT_compl (cs : List Cls) (f : Fun) : funT (complF cs f) = funT f := by
  unfold complF
  split <;> rfl
theorem parseU_txt {s : ByteArray} {u : Unt} (h : parseU s = some u) : txtU u = toL s ∧ (chkE u).2.2 = 0 ∧ s.size ≤ 65536 := by
  unfold parseU at h
  split at h
  · cases h
  rename_i h0
  split at h
  · cases h
  rename_i r hr
  split at h
  · rename_i hc
    injection h with h; subst h
    refine ⟨?_, hc, by omega⟩
    have := parsL_txt rdOk_zero hr
    rw [show txtR ⟨[], [], 0⟩ = [] from rfl, List.nil_append] at this
    rw [← this]
    unfold txtU txtR complU
    simp only
    rw [List.flatMap_map]
    congr 2
    funext f
    exact funT_compl _ f
  · cases h
end Go.Proofs.YticpeombillmeaaGreatDoor
namespace Go.Proofs.YticpeombillmeaaGreatDoor
open Go.RowKit
set_option linter.unusedVariables false

/-! ### Words -/
theorem tL (l : List UInt8) : (bsOf l).toList = l := toList_toL _
theorem wdOk_of {s : ByteArray} (h0 : 0 < s.size) (h : (toL s).all (fun c => decide (32 < c.toNat)) = true) : WdOk s := by
  rw [List.all_eq_true] at h
  refine ⟨fun e => ?_, fun hm => ?_, fun hm => ?_⟩
  · have := toL_len s
    rw [e] at this
    simp at this
    omega
  · have := h _ hm; simp at this
  · have := h _ hm; simp at this
theorem ident_part {s : ByteArray} (h : identB s = true) : (toL s).all (fun c => decide (48 ≤ c.toNat)) = true := by
  unfold identB at h
  simp only [Bool.and_eq_true, decide_eq_true_eq] at h
  have h2 := h.1.2
  rw [List.all_eq_true] at h2 ⊢
  intro c hc
  have h3 := h2 c hc
  unfold partU partB letterB digitB at h3
  simp only [Bool.or_eq_true, Bool.and_eq_true, decide_eq_true_eq, beq_iff_eq] at h3
  rw [decide_eq_true_eq]
  omega
theorem all_more {s : ByteArray} (h : (toL s).all (fun c => decide (48 ≤ c.toNat)) = true) : (toL s).all (fun c => decide (32 < c.toNat)) = true := by
  rw [List.all_eq_true] at h ⊢
  intro c hc
  have := h c hc
  rw [decide_eq_true_eq] at this ⊢
  omega
theorem wd_ident {s : ByteArray} (h : identB s = true) : WdOk s := wdOk_of (identB_len h).1 (all_more (ident_part h))
/-- A word that is no dash. -/
theorem nodash {s : ByteArray} (h : (toL s).all (fun c => decide (48 ≤ c.toNat)) = true) : s.toList ≠ [45] := fun e => by
  rw [toList_toL] at e
  rw [e] at h
  cases h
theorem ty_part {u : Unt} (H : UntV u) {s : ByteArray} (h : isTy u.classes s = true) : 0 < s.size ∧ (toL s).all (fun c => decide (48 ≤ c.toNat)) = true := by
  refine ⟨(H.ty h).1, ?_⟩
  unfold isTy at h
  rw [Bool.or_eq_true] at h
  rcases h with h | h
  · rw [beq_iff_eq, toList_toL] at h; rw [h]; rfl
  · exact ident_part (H.fnd (of_decide_eq_true h))
theorem wd_ty {u : Unt} (H : UntV u) {s : ByteArray} (h : isTy u.classes s = true) : WdOk s := wdOk_of (ty_part H h).1 (all_more (ty_part H h).2)
theorem dec_big (n : Nat) : ∀ c ∈ Lib.decDigits n, 48 ≤ c.toNat := fun c hc => (digB_iff.1 (List.all_eq_true.1 (dec_all n) c hc)).1
theorem dg_cases (n : Int) : ∃ u : Nat, dg n = Lib.decDigits u ∨ dg n = 45 :: Lib.decDigits u := by
  by_cases hn : 0 ≤ n
  · obtain ⟨u, rfl⟩ : ∃ u : Nat, n = u := ⟨n.toNat, by omega⟩
    exact ⟨u, Or.inl (dg_nat u)⟩
  · obtain ⟨u, rfl⟩ : ∃ u : Nat, n = -(u : Int) := ⟨(-n).toNat, by omega⟩
    exact ⟨u, Or.inr (dg_neg u (by omega))⟩
theorem dg_head (n : Int) : ∃ c r, dg n = c :: r ∧ c.toNat ≤ 57 := by
  obtain ⟨u, h | h⟩ := dg_cases n
  · rw [h]
    have h3 := dec_pos u
    cases hl : Lib.decDigits u with
    | nil => rw [hl] at h3; simp at h3
    | cons c r => exact ⟨c, r, rfl, (dec_head hl).2⟩
  · exact ⟨45, _, h, by decide⟩
theorem wd_dg (n : Int) : WdOk (bsOf (dg n)) := by
  refine wdOk_of ?_ ?_
  · obtain ⟨c, r, h, _⟩ := dg_head n
    rw [bsOf_size, h]; simp
  · rw [toL_bsOf, List.all_eq_true]
    obtain ⟨u, h | h⟩ := dg_cases n
    · rw [h]; intro c hc; have := dec_big u c hc; rw [decide_eq_true_eq]; omega
    · rw [h]
      intro c hc
      rcases List.mem_cons.1 hc with rfl | hc
      · rfl
      · have := dec_big u c hc; rw [decide_eq_true_eq]; omega
theorem wd_lit {l : List UInt8} (h : (!l.isEmpty && l.all (fun c => decide (32 < c.toNat))) = true) : WdOk (bsOf l) := by
  rw [Bool.and_eq_true] at h
  refine wdOk_of ?_ h.2
  rw [bsOf_size]
  cases l with
  | nil => simp at h
  | cons => simp

/-! ### Walking over lines -/
def Goes (r : RdI) (l : List UInt8) (r' : RdI) : Prop := ∃ n, n ≤ l.length ∧ ∀ k t, parsL (n + k) r (l ++ t) = parsL k r' t
theorem Goes.nil (r : RdI) : Goes r [] r := ⟨0, by simp, fun k t => by simp⟩
theorem Goes.trans {r r' r'' : RdI} {a b : List UInt8} (h : Goes r a r') (h' : Goes r' b r'') : Goes r (a ++ b) r'' := by
  obtain ⟨n, hn, h⟩ := h
  obtain ⟨m, hm, h'⟩ := h'
  refine ⟨n + m, by simp; omega, fun k t => ?_⟩
  rw [List.append_assoc, Nat.add_assoc, h, h']
theorem goes_line {r r' : RdI} {ws : List ByteArray} (h0 : ws ≠ []) (hw : ∀ x ∈ ws, WdOk x) (h : lineP r ws = some r') : Goes r (lnT ws) r' := by
  refine ⟨1, by rw [lnT_glue]; simp, fun k t => ?_⟩
  have hne : lnT ws ++ t ≠ [] := by rw [lnT_glue]; simp
  rw [Nat.add_comm, parsL, if_neg hne, stepI_line h0 hw h]
theorem goes_flat' {α : Type} {f : α → List UInt8} {st : List α → RdI} {p : α → Prop} (h : ∀ a x, p x → Goes (st a) (f x) (st (a ++ [x]))) : ∀ l a, (∀ x ∈ l, p x) → Goes (st a) (l.flatMap f) (st (a ++ l))
  | [], a, _ => by rw [List.append_nil]; exact Goes.nil _
  | x :: l, a, hp => by
    rw [List.flatMap_cons, show a ++ x :: l = (a ++ [x]) ++ l by simp]
    exact (h a x (hp x (by simp))).trans (goes_flat' h l _ (fun y hy => hp y (by simp [hy])))

/-! ### The lines of a class -/
structure ClsW (c : Cls) : Prop where
  name : WdOk c.name
  sup : c.super.toList.isEmpty = false → WdOk c.super
  fields : ∀ f ∈ c.fields, WdOk f.name ∧ WdOk f.typ
  methods : ∀ m ∈ c.methods, WdOk m.name ∧ (∀ p ∈ m.params, WdOk p) ∧ (m.result.toList.isEmpty = false → WdOk m.result ∧ m.result.toList ≠ [45])
theorem empty_of {s : ByteArray} (h : s.toList.isEmpty = true) : s = ⟨#[]⟩ := by
  rw [List.isEmpty_iff, toList_toL] at h
  exact bsOf_toL h
theorem wd_cons {a : ByteArray} {l : List ByteArray} (h : WdOk a) (h2 : ∀ x ∈ l, WdOk x) : ∀ x ∈ a :: l, WdOk x := fun x hx => by
  rcases List.mem_cons.1 hx with rfl | hx
  · exact h
  · exact h2 x hx
theorem wd_nil : ∀ x ∈ ([] : List ByteArray), WdOk x := fun x hx => by cases hx
theorem goes_cls {r : RdI} {c : Cls} (hp : r.pl ≤ 3) (h : ClsW c) : Goes r (lnT (clsW c)) ⟨r.cs ++ [⟨c.name, c.super, [], []⟩], r.fs, 1⟩ := by
  have hk : WdOk (bsOf wClass) := wd_lit (by decide)
  unfold clsW
  split
  · rename_i he
    refine goes_line (by simp) (wd_cons hk (wd_cons h.name wd_nil)) ?_
    unfold lineP
    rw [show wd [bsOf wClass, c.name] 0 = bsOf wClass from rfl, tL, if_pos (by decide), if_pos ⟨by simp, by simp, hp⟩]
    unfold clsP
    rw [show wd [bsOf wClass, c.name] 1 = c.name from rfl, show wd [bsOf wClass, c.name] 2 = ⟨#[]⟩ from rfl, empty_of he]
  · rename_i he
    refine goes_line (by simp) (wd_cons hk (wd_cons h.name (wd_cons (h.sup (by simpa using he)) wd_nil))) ?_
    unfold lineP
    rw [show wd [bsOf wClass, c.name, c.super] 0 = bsOf wClass from rfl, tL, if_pos (by decide), if_pos ⟨by simp, by simp, hp⟩]
    rfl
theorem goes_fld {cs : List Cls} {fs : List Fun} {pl : Nat} (c : Cls) (f : Fld) (hp : 1 ≤ pl ∧ pl ≤ 2) (h : WdOk f.name ∧ WdOk f.typ) : Goes ⟨cs ++ [c], fs, pl⟩ (fldT f) ⟨cs ++ [{ c with fields := c.fields ++ [f] }], fs, 2⟩ := by
  refine goes_line (by simp [fldW]) (wd_cons (wd_lit (by decide)) (wd_cons h.1 (wd_cons h.2 wd_nil))) ?_
  unfold lineP fldW
  rw [show wd [bsOf wField, f.name, f.typ] 0 = bsOf wField from rfl, tL, if_neg (by decide), if_pos (by decide), if_pos ⟨by simp, hp⟩]
  simp only [modLast_snoc]
  rfl
theorem goes_mth {cs : List Cls} {fs : List Fun} {pl : Nat} (c : Cls) (m : Sg) (hp : 1 ≤ pl ∧ pl ≤ 3) (h : WdOk m.name ∧ (∀ p ∈ m.params, WdOk p) ∧ (m.result.toList.isEmpty = false → WdOk m.result ∧ m.result.toList ≠ [45])) : Goes ⟨cs ++ [c], fs, pl⟩ (mthT m) ⟨cs ++ [{ c with methods := c.methods ++ [m] }], fs, 3⟩ := by
  obtain ⟨h1, h2, h3⟩ := h
  obtain ⟨nm, st, ps, rs⟩ := m
  simp only at h1 h2 h3
  refine goes_line (by simp [mthW]) ?_ ?_
  · unfold mthW
    refine wd_cons (wd_lit (by decide)) (wd_cons h1 (wd_cons ?_ (wd_cons ?_ h2)))
    · cases st
      · exact (show WdOk (bsOf wVirt) from wd_lit (by decide))
      · exact (show WdOk (bsOf wStat) from wd_lit (by decide))
    · cases he : rs.toList.isEmpty with
      | true => rw [if_pos rfl]; exact wd_lit (by decide)
      | false => rw [if_neg (by simp)]; exact (h3 he).1
  · have e : mthP (mthW ⟨nm, st, ps, rs⟩) = ⟨nm, st, ps, rs⟩ := by
      show (⟨nm, (bsOf (if st then wStat else wVirt)).toList == wStat, ps, if ((if rs.toList.isEmpty then bsOf [45] else rs).toList == [45]) = true then ⟨#[]⟩ else (if rs.toList.isEmpty then bsOf [45] else rs)⟩ : Sg) = _
      have e1 : ((bsOf (if st = true then wStat else wVirt)).toList == wStat) = st := by
        rw [tL]; cases st <;> decide
      rw [e1]
      cases he : rs.toList.isEmpty with
      | true => rw [if_pos rfl, tL, if_pos (by decide), empty_of he]
      | false =>
        have hd : ¬ (rs.toList == [45]) = true := by rw [beq_iff_eq]; exact (h3 he).2
        simp only [Bool.false_eq_true, if_false, if_neg hd]
    unfold lineP
    rw [show wd (mthW ⟨nm, st, ps, rs⟩) 0 = bsOf wMethod from rfl, tL, if_neg (by decide), if_neg (by decide), if_pos (by decide), if_pos, e]
    · simp only [modLast_snoc]
    · refine ⟨by simp [mthW], hp.1, hp.2, ?_⟩
      rw [show wd (mthW ⟨nm, st, ps, rs⟩) 2 = bsOf (if st then wStat else wVirt) from rfl, tL]
      cases st <;> decide
/-- The class without its members, with the first k of them. -/
theorem goes_class {r : RdI} {c : Cls} (hp : r.pl ≤ 3) (h : ClsW c) : ∃ pl, 1 ≤ pl ∧ pl ≤ 3 ∧ Goes r (clsT c) ⟨r.cs ++ [c], r.fs, pl⟩ := by
  obtain ⟨nm, su, fl, ms⟩ := c
  have g1 := goes_cls hp h
  have g2 : ∃ pl, 1 ≤ pl ∧ pl ≤ 2 ∧ Goes ⟨r.cs ++ [⟨nm, su, [], []⟩], r.fs, 1⟩ (fl.flatMap fldT) ⟨r.cs ++ [⟨nm, su, fl, []⟩], r.fs, pl⟩ := by
    cases fl with
    | nil => exact ⟨1, by simp, by simp, Goes.nil _⟩
    | cons f fl =>
      have k1 := goes_fld (cs := r.cs) (fs := r.fs) (pl := 1) ⟨nm, su, [], []⟩ f ⟨by simp, by simp⟩ (h.fields f (by simp))
      have k2 := goes_flat' (st := fun a => ⟨r.cs ++ [⟨nm, su, a, []⟩], r.fs, 2⟩) (p := fun f => WdOk f.name ∧ WdOk f.typ) (f := fldT) (fun a x hx => goes_fld ⟨nm, su, a, []⟩ x ⟨by simp, by simp⟩ hx) fl [f] (fun x hx => h.fields x (by simp [hx]))
      exact ⟨2, by simp, by simp, by rw [List.flatMap_cons]; exact k1.trans k2⟩
  obtain ⟨p2, h2, h3, g2⟩ := g2
  have g3 : ∃ pl, 1 ≤ pl ∧ pl ≤ 3 ∧ Goes ⟨r.cs ++ [⟨nm, su, fl, []⟩], r.fs, p2⟩ (ms.flatMap mthT) ⟨r.cs ++ [⟨nm, su, fl, ms⟩], r.fs, pl⟩ := by
    cases ms with
    | nil => exact ⟨p2, h2, by omega, Goes.nil _⟩
    | cons m ms =>
      have k1 := goes_mth (cs := r.cs) (fs := r.fs) (pl := p2) ⟨nm, su, fl, []⟩ m ⟨h2, by omega⟩ (h.methods m (by simp))
      have k2 := goes_flat' (st := fun a => ⟨r.cs ++ [⟨nm, su, fl, a⟩], r.fs, 3⟩) (p := fun m : Sg => WdOk m.name ∧ (∀ p ∈ m.params, WdOk p) ∧ (m.result.toList.isEmpty = false → WdOk m.result ∧ m.result.toList ≠ [45])) (f := mthT) (fun a x hx => goes_mth ⟨nm, su, fl, a⟩ x ⟨by simp, by simp⟩ hx) ms [m] (fun x hx => h.methods x (by simp [hx]))
      exact ⟨3, by simp, by simp, by rw [List.flatMap_cons]; exact k1.trans k2⟩
  obtain ⟨p3, h4, h5, g3⟩ := g3
  exact ⟨p3, h4, h5, (g1.trans g2).trans g3⟩

/-! ### The lines of a function -/
structure FunW (f : Fun) : Prop where
  cls : WdOk f.cls
  name : WdOk f.name
  vars : ∀ v ∈ f.vars, WdOk v.name ∧ WdOk v.typ
  code : ∀ x ∈ f.code, (∀ s ∈ insW x, WdOk s) ∧ insP (insW x) = some x
/-- What the text of a function tells. -/
def bareF (f : Fun) : Fun := { f with static := false, nparams := 0, result := ⟨#[]⟩ }
theorem goes_var {cs : List Cls} {fs : List Fun} {pl : Nat} (f : Fun) (v : Fld) (hp : 4 ≤ pl ∧ pl ≤ 5) (h : WdOk v.name ∧ WdOk v.typ) : Goes ⟨cs, fs ++ [f], pl⟩ (varT v) ⟨cs, fs ++ [{ f with vars := f.vars ++ [v] }], 5⟩ := by
  refine goes_line (by simp [varW]) (wd_cons (wd_lit (by decide)) (wd_cons h.1 (wd_cons h.2 wd_nil))) ?_
  unfold lineP varW
  rw [show wd [bsOf wVar, v.name, v.typ] 0 = bsOf wVar from rfl, tL, if_neg (by decide), if_neg (by decide), if_neg (by decide), if_neg (by decide), if_pos (by decide), if_pos ⟨by simp, hp⟩]
  simp only [modLast_snoc]
  rfl
theorem kw_dg {n : Int} {c : UInt8} {l : List UInt8} (h : 57 < c.toNat) : ¬ (dg n == c :: l) = true := by
  obtain ⟨d, r, e, hd⟩ := dg_head n
  rw [e, beq_iff_eq]
  intro e2
  injection e2 with e2 _
  rw [e2] at hd
  omega
theorem kw1 (n : Int) : ¬ (dg n == wClass) = true := kw_dg (c := 99) (by decide)
theorem kw2 (n : Int) : ¬ (dg n == wField) = true := kw_dg (c := 102) (by decide)
theorem kw3 (n : Int) : ¬ (dg n == wMethod) = true := kw_dg (c := 109) (by decide)
theorem kw4 (n : Int) : ¬ (dg n == wFunc) = true := kw_dg (c := 102) (by decide)
theorem kw5 (n : Int) : ¬ (dg n == wVar) = true := kw_dg (c := 118) (by decide)
theorem goes_ins {cs : List Cls} {fs : List Fun} {pl : Nat} (f : Fun) (x : Ins) (hp : 4 ≤ pl ∧ pl ≤ 6) (h : (∀ s ∈ insW x, WdOk s) ∧ insP (insW x) = some x) : Goes ⟨cs, fs ++ [f], pl⟩ (insTx x) ⟨cs, fs ++ [{ f with code := f.code ++ [x] }], 6⟩ := by
  refine goes_line (by simp [insW]) h.1 ?_
  unfold lineP
  rw [show wd (insW x) 0 = bsOf (dg x.hnd) from rfl, tL, if_neg (kw1 _), if_neg (kw2 _), if_neg (kw3 _), if_neg (kw4 _), if_neg (kw5 _), h.2]
  simp only
  rw [if_pos hp]
  simp only [modLast_snoc]
theorem goes_fun {r : RdI} {f : Fun} (hp : r.pl ≤ 6) (h : FunW f) : ∃ pl, 4 ≤ pl ∧ pl ≤ 6 ∧ Goes r (funT f) ⟨r.cs, r.fs ++ [bareF f], pl⟩ := by
  obtain ⟨cl, nm, st, np, vs, re, code⟩ := f
  have g1 : Goes r (lnT (funW ⟨cl, nm, st, np, vs, re, code⟩)) ⟨r.cs, r.fs ++ [⟨cl, nm, false, 0, [], ⟨#[]⟩, []⟩], 4⟩ := by
    refine goes_line (by simp [funW]) (wd_cons (wd_lit (by decide)) (wd_cons h.cls (wd_cons h.name wd_nil))) ?_
    unfold lineP funW
    rw [show wd [bsOf wFunc, cl, nm] 0 = bsOf wFunc from rfl, tL, if_neg (by decide), if_neg (by decide), if_neg (by decide), if_pos (by decide), if_pos ⟨by simp, hp⟩]
    rfl
  have g2 : ∃ pl, 4 ≤ pl ∧ pl ≤ 5 ∧ Goes ⟨r.cs, r.fs ++ [⟨cl, nm, false, 0, [], ⟨#[]⟩, []⟩], 4⟩ (vs.flatMap varT) ⟨r.cs, r.fs ++ [⟨cl, nm, false, 0, vs, ⟨#[]⟩, []⟩], pl⟩ := by
    cases vs with
    | nil => exact ⟨4, by simp, by simp, Goes.nil _⟩
    | cons v vs =>
      have k1 := goes_var (cs := r.cs) (fs := r.fs) (pl := 4) ⟨cl, nm, false, 0, [], ⟨#[]⟩, []⟩ v ⟨by simp, by simp⟩ (h.vars v (by simp))
      have k2 := goes_flat' (st := fun a => ⟨r.cs, r.fs ++ [⟨cl, nm, false, 0, a, ⟨#[]⟩, []⟩], 5⟩) (p := fun v => WdOk v.name ∧ WdOk v.typ) (f := varT) (fun a x hx => goes_var ⟨cl, nm, false, 0, a, ⟨#[]⟩, []⟩ x ⟨by simp, by simp⟩ hx) vs [v] (fun x hx => h.vars x (by simp [hx]))
      exact ⟨5, by simp, by simp, by rw [List.flatMap_cons]; exact k1.trans k2⟩
  obtain ⟨p2, h2, h3, g2⟩ := g2
  have g3 : ∃ pl, 4 ≤ pl ∧ pl ≤ 6 ∧ Goes ⟨r.cs, r.fs ++ [⟨cl, nm, false, 0, vs, ⟨#[]⟩, []⟩], p2⟩ (code.flatMap insTx) ⟨r.cs, r.fs ++ [⟨cl, nm, false, 0, vs, ⟨#[]⟩, code⟩], pl⟩ := by
    cases code with
    | nil => exact ⟨p2, h2, by omega, Goes.nil _⟩
    | cons x code =>
      have k1 := goes_ins (cs := r.cs) (fs := r.fs) (pl := p2) ⟨cl, nm, false, 0, vs, ⟨#[]⟩, []⟩ x ⟨h2, by omega⟩ (h.code x (by simp))
      have k2 := goes_flat' (st := fun a => ⟨r.cs, r.fs ++ [⟨cl, nm, false, 0, vs, ⟨#[]⟩, a⟩], 6⟩) (p := fun x => (∀ s ∈ insW x, WdOk s) ∧ insP (insW x) = some x) (f := insTx) (fun a x hx => goes_ins ⟨cl, nm, false, 0, vs, ⟨#[]⟩, a⟩ x ⟨by simp, by simp⟩ hx) code [x] (fun x hx => h.code x (by simp [hx]))
      exact ⟨6, by simp, by simp, by rw [List.flatMap_cons]; exact k1.trans k2⟩
  obtain ⟨p3, h4, h5, g3⟩ := g3
  exact ⟨p3, h4, h5, (g1.trans g2).trans g3⟩
theorem goes_classes : ∀ {cs : List Cls} {r : RdI}, r.pl ≤ 3 → (∀ c ∈ cs, ClsW c) → ∃ pl, pl ≤ 3 ∧ Goes r (cs.flatMap clsT) ⟨r.cs ++ cs, r.fs, pl⟩
  | [], r, hp, _ => ⟨r.pl, hp, by rw [List.append_nil]; exact Goes.nil _⟩
  | c :: cs, r, hp, h => by
    obtain ⟨p1, h1, h2, g1⟩ := goes_class hp (h c (by simp))
    obtain ⟨p2, h3, g2⟩ := goes_classes (cs := cs) (r := ⟨r.cs ++ [c], r.fs, p1⟩) h2 (fun d hd => h d (by simp [hd]))
    refine ⟨p2, h3, ?_⟩
    rw [List.flatMap_cons, show r.cs ++ c :: cs = (r.cs ++ [c]) ++ cs by simp]
    exact g1.trans g2
theorem goes_funs : ∀ {fs : List Fun} {r : RdI}, r.pl ≤ 6 → (∀ f ∈ fs, FunW f) → ∃ pl, pl ≤ 6 ∧ Goes r (fs.flatMap funT) ⟨r.cs, r.fs ++ fs.map bareF, pl⟩
  | [], r, hp, _ => ⟨r.pl, hp, by rw [List.map_nil, List.append_nil]; exact Goes.nil _⟩
  | f :: fs, r, hp, h => by
    obtain ⟨p1, h1, h2, g1⟩ := goes_fun hp (h f (by simp))
    obtain ⟨p2, h3, g2⟩ := goes_funs (fs := fs) (r := ⟨r.cs, r.fs ++ [bareF f], p1⟩) h2 (fun d hd => h d (by simp [hd]))
    refine ⟨p2, h3, ?_⟩
    rw [List.flatMap_cons, List.map_cons, show r.fs ++ bareF f :: fs.map bareF = (r.fs ++ [bareF f]) ++ fs.map bareF by simp]
    exact g1.trans g2
end Go.Proofs.YticpeombillmeaaGreatDoor
namespace Go.Proofs.YticpeombillmeaaGreatDoor
open Go.RowKit
set_option linter.unusedVariables false

/-! ### An instruction is read from its words -/
theorem opOf_at : ∀ k, k < 17 → opOf ((namesB[k]?).getD ByteArray.empty) = some k := by
  intro k hk
  have h1 : (namesB[k]?).getD ByteArray.empty = bsOf ((nameL[k]?).getD []) := by
    unfold namesB
    rw [List.getElem?_map]
    have : k < nameL.length := hk
    rw [List.getElem?_eq_getElem this]; rfl
  have h2 : ∀ w : List UInt8, opOf (bsOf w) = nameL.findIdx? (fun o => w == o) := fun w => by
    unfold opOf namesB
    rw [List.findIdx?_map]
    congr 1
    funext o
    show ((bsOf w).toList == (bsOf o).toList) = _
    rw [tL, tL]
  rw [h1, h2]
  have : ∀ k, k < 17 → nameL.findIdx? (fun o => (nameL[k]?).getD [] == o) = some k := by decide
  exact this k hk
theorem operOf_at : ∀ k, k < 5 → operOf ((opersB[k]?).getD ByteArray.empty) = some k := by
  intro k hk
  have h1 : (opersB[k]?).getD ByteArray.empty = bsOf ((operL[k]?).getD []) := by
    unfold opersB
    rw [List.getElem?_map]
    have : k < operL.length := hk
    rw [List.getElem?_eq_getElem this]; rfl
  have h2 : ∀ w : List UInt8, operOf (bsOf w) = operL.findIdx? (fun o => w == o) := fun w => by
    unfold operOf opersB
    rw [List.findIdx?_map]
    congr 1
    funext o
    show ((bsOf w).toList == (bsOf o).toList) = _
    rw [tL, tL]
  rw [h1, h2]
  have : ∀ k, k < 5 → operL.findIdx? (fun o => (operL[k]?).getD [] == o) = some k := by decide
  exact this k hk
def copyF (z x : Ins) (c : UInt8) : Ins :=
  if c = 99 then { z with cls := x.cls } else if c = 109 then { z with name := x.name } else if c = 111 then { z with n := x.n } else
  if c = 100 then { z with dst := x.dst } else if c = 97 then { z with a := x.a } else if c = 98 then { z with b := x.b } else if c = 110 then { z with n := x.n } else if c = 103 then { z with jmp := x.jmp } else z
def putLs (z x : Ins) (f : List UInt8) : Ins := f.foldl (fun z c => copyF z x c) z
theorem setF_put {z x : Ins} {c : UInt8} (hI : InsI x) (h4 : c = 111 → 1 ≤ x.n ∧ x.n ≤ 5) (hc : Ltr c) : ∃ w, fieldW x c = [w] ∧ setF z c w = some (copyF z x c) := by
  obtain ⟨i1, i2, i3, i4, i5, i6, i7⟩ := hI
  rcases hc with rfl | rfl | rfl | rfl | rfl | rfl | rfl | rfl
  · refine ⟨_, rfl, ?_⟩
    show (numI (bsOf (dg x.dst))).map (setN z 100) = _
    rw [numI_dg i1]; rfl
  · refine ⟨_, rfl, ?_⟩
    show (numI (bsOf (dg x.a))).map (setN z 97) = _
    rw [numI_dg i2]; rfl
  · refine ⟨_, rfl, ?_⟩
    show (numI (bsOf (dg x.b))).map (setN z 98) = _
    rw [numI_dg i3]; rfl
  · refine ⟨_, rfl, ?_⟩
    show (numI (bsOf (dg x.n))).map (setN z 110) = _
    rw [numI_dg i4]; rfl
  · refine ⟨_, rfl, ?_⟩
    have := h4 rfl
    show (operOf ((opersB[(x.n - 1).toNat]?).getD ByteArray.empty)).map (fun k => { z with n := 1 + (k : Int) }) = _
    rw [operOf_at _ (by omega)]
    show some { z with n := 1 + (((x.n - 1).toNat : Nat) : Int) } = some { z with n := x.n }
    rw [show 1 + (((x.n - 1).toNat : Nat) : Int) = x.n by omega]
  · exact ⟨_, rfl, rfl⟩
  · exact ⟨_, rfl, rfl⟩
  · refine ⟨_, rfl, ?_⟩
    show (numI (bsOf (dg x.jmp))).map (setN z 103) = _
    rw [numI_dg i5]; rfl
theorem setL_put {x : Ins} (hI : InsI x) (t : List ByteArray) : ∀ {f : List UInt8} {z : Ins}, (∀ c ∈ f, Ltr c) → (∀ c ∈ f, c = 111 → 1 ≤ x.n ∧ x.n ≤ 5) → setL z f (f.flatMap (fieldW x) ++ t) = some (putLs z x f) ∧ (f.flatMap (fieldW x)).length = f.length
  | [], z, _, _ => ⟨rfl, rfl⟩
  | c :: f, z, hl, h4 => by
    obtain ⟨w, h1, h2⟩ := setF_put (z := z) hI (h4 c (by simp)) (hl c (by simp))
    obtain ⟨h3, h5⟩ := setL_put hI t (f := f) (z := copyF z x c) (fun d hd => hl d (by simp [hd])) (fun d hd => h4 d (by simp [hd]))
    refine ⟨?_, by rw [List.flatMap_cons, h1, List.length_append, h5]; simp; omega⟩
    rw [List.flatMap_cons, h1, List.singleton_append, List.cons_append, setL, h2]
    exact h3
section
variable {x : Ins}
theorem putL_dst : ∀ (f : List UInt8) (z : Ins), (putLs z x f).dst = if f.contains 100 then x.dst else z.dst
  | [], z => rfl
  | c :: f, z => by
    show (putLs (copyF z x c) x f).dst = _
    rw [putL_dst f, List.contains_cons]
    by_cases h : c = 100
    · subst h
      show (if f.contains 100 = true then x.dst else x.dst) = if (true || f.contains 100) = true then x.dst else z.dst
      simp
    · rw [beq_false_of_ne (fun e => h e.symm), Bool.false_or]
      congr 1
      unfold copyF
      repeat' split
      all_goals first | rfl | exact absurd (by assumption) h
theorem putL_a : ∀ (f : List UInt8) (z : Ins), (putLs z x f).a = if f.contains 97 then x.a else z.a
  | [], z => rfl
  | c :: f, z => by
    show (putLs (copyF z x c) x f).a = _
    rw [putL_a f, List.contains_cons]
    by_cases h : c = 97
    · subst h
      show (if f.contains 97 = true then x.a else x.a) = if (true || f.contains 97) = true then x.a else z.a
      simp
    · rw [beq_false_of_ne (fun e => h e.symm), Bool.false_or]
      congr 1
      unfold copyF
      repeat' split
      all_goals first | rfl | exact absurd (by assumption) h
theorem putL_b : ∀ (f : List UInt8) (z : Ins), (putLs z x f).b = if f.contains 98 then x.b else z.b
  | [], z => rfl
  | c :: f, z => by
    show (putLs (copyF z x c) x f).b = _
    rw [putL_b f, List.contains_cons]
    by_cases h : c = 98
    · subst h
      show (if f.contains 98 = true then x.b else x.b) = if (true || f.contains 98) = true then x.b else z.b
      simp
    · rw [beq_false_of_ne (fun e => h e.symm), Bool.false_or]
      congr 1
      unfold copyF
      repeat' split
      all_goals first | rfl | exact absurd (by assumption) h
theorem putL_jmp : ∀ (f : List UInt8) (z : Ins), (putLs z x f).jmp = if f.contains 103 then x.jmp else z.jmp
  | [], z => rfl
  | c :: f, z => by
    show (putLs (copyF z x c) x f).jmp = _
    rw [putL_jmp f, List.contains_cons]
    by_cases h : c = 103
    · subst h
      show (if f.contains 103 = true then x.jmp else x.jmp) = if (true || f.contains 103) = true then x.jmp else z.jmp
      simp
    · rw [beq_false_of_ne (fun e => h e.symm), Bool.false_or]
      congr 1
      unfold copyF
      repeat' split
      all_goals first | rfl | exact absurd (by assumption) h
theorem putL_cls : ∀ (f : List UInt8) (z : Ins), (putLs z x f).cls = if f.contains 99 then x.cls else z.cls
  | [], z => rfl
  | c :: f, z => by
    show (putLs (copyF z x c) x f).cls = _
    rw [putL_cls f, List.contains_cons]
    by_cases h : c = 99
    · subst h
      show (if f.contains 99 = true then x.cls else x.cls) = if (true || f.contains 99) = true then x.cls else z.cls
      simp
    · rw [beq_false_of_ne (fun e => h e.symm), Bool.false_or]
      congr 1
      unfold copyF
      repeat' split
      all_goals first | rfl | exact absurd (by assumption) h
theorem putL_name : ∀ (f : List UInt8) (z : Ins), (putLs z x f).name = if f.contains 109 then x.name else z.name
  | [], z => rfl
  | c :: f, z => by
    show (putLs (copyF z x c) x f).name = _
    rw [putL_name f, List.contains_cons]
    by_cases h : c = 109
    · subst h
      show (if f.contains 109 = true then x.name else x.name) = if (true || f.contains 109) = true then x.name else z.name
      simp
    · rw [beq_false_of_ne (fun e => h e.symm), Bool.false_or]
      congr 1
      unfold copyF
      repeat' split
      all_goals first | rfl | exact absurd (by assumption) h
theorem putL_n : ∀ (f : List UInt8) (z : Ins), (putLs z x f).n = if (f.contains 110 || f.contains 111) then x.n else z.n
  | [], z => rfl
  | c :: f, z => by
    show (putLs (copyF z x c) x f).n = _
    rw [putL_n f, List.contains_cons, List.contains_cons]
    by_cases h : c = 110
    · subst h
      show (if (f.contains 110 || f.contains 111) = true then x.n else x.n) = if ((true || f.contains 110) || _) = true then x.n else z.n
      simp
    by_cases h2 : c = 111
    · subst h2
      show (if (f.contains 110 || f.contains 111) = true then x.n else x.n) = if ((_ || f.contains 110) || (true || f.contains 111)) = true then x.n else z.n
      simp
    · rw [beq_false_of_ne (fun e => h e.symm), Bool.false_or, beq_false_of_ne (fun e => h2 e.symm), Bool.false_or]
      congr 1
      unfold copyF
      repeat' split
      all_goals first | rfl | exact absurd (by assumption) h | exact absurd (by assumption) h2
theorem putL_rest : ∀ (f : List UInt8) (z : Ins), (putLs z x f).op = z.op ∧ (putLs z x f).hnd = z.hnd
  | [], z => ⟨rfl, rfl⟩
  | c :: f, z => by
    obtain ⟨h1, h2⟩ := putL_rest f (copyF z x c)
    refine ⟨(show (putLs (copyF z x c) x f).op = _ from h1).trans ?_, (show (putLs (copyF z x c) x f).hnd = _ from h2).trans ?_⟩
    · unfold copyF; repeat' split
      all_goals rfl
    · unfold copyF; repeat' split
      all_goals rfl
end
theorem numsL_dg : ∀ {l : List Int}, (∀ v ∈ l, I64 v) → numsL (l.map fun v => bsOf (dg v)) = some l
  | [], _ => rfl
  | v :: l, h => by rw [List.map_cons, numsL, numI_dg (h v (by simp)), numsL_dg (fun z hz => h z (by simp [hz]))]
theorem form_uses : ∀ k : Nat, k < 17 → (letF k).contains 100 = usesB k 100 ∧ (letF k).contains 97 = usesB k 97 ∧ (letF k).contains 98 = usesB k 98 ∧ (letF k).contains 110 = usesB k 110 ∧ (letF k).contains 111 = usesB k 111 ∧ (letF k).contains 99 = usesB k 99 ∧ (letF k).contains 109 = usesB k 109 ∧ (letF k).contains 103 = usesB k 103 ∧ manyF k = usesB k 42 ∧ (k ≠ 4 → (111 : UInt8) ∉ letF k) := by decide
theorem ite_zero {α : Type} {b : Bool} {x z : α} (h : b = false → x = z) : (if b = true then x else z) = x := by
  cases b with
  | true => rfl
  | false => exact (h rfl).symm
theorem beq_zero {b : Bool} {n : Int} (h : (b || n == 0) = true) (hb : b = false) : n = 0 := by rw [hb, Bool.false_or, beq_iff_eq] at h; exact h
theorem insP_insW {x : Ins} (hI : InsI x) (h0 : 0 ≤ x.op) (h17 : x.op < 17) (h4 : x.op = 4 → 1 ≤ x.n ∧ x.n ≤ 5) (hz : zeroB x = true) : insP (insW x) = some x := by
  obtain ⟨op, dst, a, b, n, cls, name, args, jmp, hnd⟩ := x
  obtain ⟨k, rfl, hk⟩ : ∃ k : Nat, op = k ∧ k < 17 := ⟨op.toNat, by simp only at h0; omega, by simp only at h0 h17; omega⟩
  obtain ⟨f1, f2, f3⟩ := form_facts k hk
  obtain ⟨u1, u2, u3, u4, u5, u6, u7, u8, u9, u10⟩ := form_uses k hk
  generalize hx : (⟨(k : Int), dst, a, b, n, cls, name, args, jmp, hnd⟩ : Ins) = x at *
  have hop : x.op = k := by rw [← hx]
  have h111 : ∀ c ∈ letF k, c = 111 → 1 ≤ x.n ∧ x.n ≤ 5 := fun c hc e => by
    refine h4 ?_
    rcases Classical.em (k = 4) with h | h
    · rw [hop, h]; rfl
    · exact absurd (by rw [← e]; exact hc) (u10 h)
  have hf : (formOf x.op).flatMap (fieldW x) = (letF k).flatMap (fieldW x) ++ (if manyF k then x.args.map (fun v => bsOf (dg v)) else []) := by
    unfold formOf
    rw [hop, Int.toNat_natCast, f3, List.flatMap_append]
    congr 1
    cases manyF k with
    | true => rw [if_pos rfl, if_pos rfl]; show x.args.map (fun v => bsOf (dg v)) ++ [] = _; rw [List.append_nil]
    | false => rfl
  obtain ⟨s1, s2⟩ := setL_put hI (if manyF k then x.args.map (fun v => bsOf (dg v)) else []) (z := { zIns with op := k, hnd := x.hnd }) f1 h111
  unfold insW
  rw [hf]
  show insP (bsOf (dg x.hnd) :: (namesB[x.op.toNat]?).getD ByteArray.empty :: ((letF k).flatMap (fieldW x) ++ (if manyF k then x.args.map (fun v => bsOf (dg v)) else []))) = _
  unfold insP
  simp only
  rw [numI_dg hI.2.2.2.2.2.1]
  simp only
  rw [hop, Int.toNat_natCast, opOf_at k hk]
  simp only
  unfold zeroB at hz
  simp only [Bool.and_eq_true] at hz
  obtain ⟨⟨⟨⟨⟨⟨⟨z1, z2⟩, z3⟩, z4⟩, z5⟩, z6⟩, z7⟩, z8⟩ := hz
  rw [hop] at z1 z2 z3 z4 z5 z6 z7 z8
  rw [if_neg, s1]
  · simp only
    rw [List.drop_append_of_le_length (by rw [s2]; exact Nat.le_refl _), ← s2, List.drop_length, List.nil_append]
    have hn : numsL (if manyF k = true then x.args.map (fun v => bsOf (dg v)) else []) = some x.args := by
      cases hm : manyF k with
      | true => rw [if_pos rfl]; exact numsL_dg hI.2.2.2.2.2.2
      | false =>
        rw [u9] at hm
        rw [hm] at z7
        have : x.args = [] := by
          have : ((x.args.length : Int) == 0) = true := by simpa using z7
          rw [beq_iff_eq] at this
          exact List.eq_nil_of_length_eq_zero (by omega)
        rw [this]; rfl
    rw [hn]
    simp only
    have p1 := putL_dst (x := x) (letF k) { zIns with op := k, hnd := x.hnd }
    have p2 := putL_a (x := x) (letF k) { zIns with op := k, hnd := x.hnd }
    have p3 := putL_b (x := x) (letF k) { zIns with op := k, hnd := x.hnd }
    have p4 := putL_n (x := x) (letF k) { zIns with op := k, hnd := x.hnd }
    have p5 := putL_cls (x := x) (letF k) { zIns with op := k, hnd := x.hnd }
    have p6 := putL_name (x := x) (letF k) { zIns with op := k, hnd := x.hnd }
    have p7 := putL_jmp (x := x) (letF k) { zIns with op := k, hnd := x.hnd }
    obtain ⟨p8, p9⟩ := putL_rest (x := x) (letF k) { zIns with op := k, hnd := x.hnd }
    generalize putLs { zIns with op := (k : Int), hnd := x.hnd } x (letF k) = y at *
    rw [u1] at p1
    replace p1 := p1.trans (ite_zero (fun h => beq_zero z1 h))
    rw [u2] at p2
    replace p2 := p2.trans (ite_zero (fun h => beq_zero z2 h))
    rw [u3] at p3
    replace p3 := p3.trans (ite_zero (fun h => beq_zero z3 h))
    rw [u4, u5] at p4
    replace p4 := p4.trans (ite_zero (fun h => beq_zero z4 h))
    rw [u6] at p5
    replace p5 := p5.trans (ite_zero (fun h => by rw [h, Bool.false_or] at z5; exact empty_of z5))
    rw [u7] at p6
    replace p6 := p6.trans (ite_zero (fun h => by rw [h, Bool.false_or] at z6; exact empty_of z6))
    rw [u8] at p7
    replace p7 := p7.trans (ite_zero (fun h => beq_zero z8 h))
    obtain ⟨yo, yd, ya, yb, yn, yc, ym, yr, yj, yh⟩ := y
    simp only at p1 p2 p3 p4 p5 p6 p7 p8 p9
    rw [p1, p2, p3, p4, p5, p6, p7, p8, p9, ← hop]
  · rw [List.length_append, s2]
    rintro (h | ⟨h, h'⟩)
    · omega
    · rw [h, if_neg (by simp)] at h'
      simp at h'

/-! ### What a valid unit's text leans on -/
theorem UntV.insN {u : Unt} (H : UntV u) {f : Fun} {i : Nat} {x : Ins} (hx : InsV u.classes f i x) : (usesB x.op 99 = true → identB x.cls = true) ∧ (usesB x.op 109 = true → identB x.name = true) := by
  have hk : knownB x.op = true := by
    cases h : knownB x.op with
    | true => rfl
    | false => have := hx.kind; unfold kindBad at this; rw [h] at this; cases this
  have ht := hx.typ
  have hm : ∀ g : Sg, (∃ c ∈ u.classes, g ∈ c.methods) → identB g.name = true := fun g ⟨c, hc, hg⟩ => by
    obtain ⟨j, hj, rfl⟩ := List.getElem_of_mem hc
    exact ((H.cls j hj).methods g hg).1
  unfold knownB at hk
  simp only [Bool.and_eq_true, decide_eq_true_eq] at hk
  have hop : x.op = 0 ∨ x.op = 1 ∨ x.op = 2 ∨ x.op = 3 ∨ x.op = 4 ∨ x.op = 5 ∨ x.op = 11 ∨ x.op = 12 ∨ x.op = 13 ∨ x.op = 14 ∨ x.op = 16 ∨ x.op = 6 ∨ x.op = 15 ∨ x.op = 7 ∨ x.op = 8 ∨ x.op = 9 ∨ x.op = 10 := by omega
  rcases hop with h | h | h | h | h | h | h | h | h | h | h | h | h | h | h | h | h
  iterate 11 exact ⟨fun e => by rw [h] at e; exact absurd e (by decide), fun e => by rw [h] at e; exact absurd e (by decide)⟩
  iterate 2
    refine ⟨fun _ => ?_, fun e => by rw [h] at e; exact absurd e (by decide)⟩
    rw [insT_new (by omega)] at ht
    split at ht
    · cases ht
    · exact H.fnd (by omega)
  iterate 2
    refine ⟨fun e => by rw [h] at e; exact absurd e (by decide), fun _ => ?_⟩
    rw [insT_field (by omega)] at ht
    obtain ⟨c, hc, g, hg, hn⟩ := fieldL_has (fieldE_ok ht).2
    obtain ⟨j, hj, rfl⟩ := List.getElem_of_mem hc
    rw [← hn]
    exact ((H.cls j hj).fields g hg).1
  · rw [insT_call h] at ht
    obtain ⟨h1, h2, g, hg, _, hce⟩ := callT_ok ht
    obtain ⟨h3, h4⟩ := lookS_has hg
    rw [h2] at h1
    refine ⟨fun _ => H.fnd ?_, fun _ => by rw [← h4]; exact hm g h3⟩
    unfold isClsT at h1
    simp only [Bool.and_eq_true, decide_eq_true_eq] at h1
    exact h1.2
  · rw [insT_stat h] at ht
    obtain ⟨g, hg, hce⟩ := statT_ok ht
    obtain ⟨h3, h4, h7, _⟩ := statS_has hg
    exact ⟨fun _ => H.fnd h7, fun _ => by rw [← h4]; exact hm g h3⟩
theorem insW_wd {x : Ins} (h0 : 0 ≤ x.op) (h17 : x.op < 17) (h4 : x.op = 4 → 1 ≤ x.n ∧ x.n ≤ 5) (hc : usesB x.op 99 = true → identB x.cls = true) (hn : usesB x.op 109 = true → identB x.name = true) : ∀ s ∈ insW x, WdOk s := by
  obtain ⟨k, hk, hk2⟩ := form_nat ⟨h0, h17⟩
  obtain ⟨f1, f2, f3⟩ := form_facts k hk2
  obtain ⟨u1, u2, u3, u4, u5, u6, u7, u8, u9, u10⟩ := form_uses k hk2
  have hno : ∀ k, k < 17 → (fun l : List UInt8 => (!l.isEmpty && l.all (fun c => decide (32 < c.toNat)))) ((nameL[k]?).getD []) = true := by decide
  have hoo : ∀ k, k < 5 → (fun l : List UInt8 => (!l.isEmpty && l.all (fun c => decide (32 < c.toNat)))) ((operL[k]?).getD []) = true := by decide
  unfold insW
  refine wd_cons (wd_dg _) (wd_cons ?_ ?_)
  · have h1 : (namesB[x.op.toNat]?).getD ByteArray.empty = bsOf ((nameL[k]?).getD []) := by
      rw [hk, Int.toNat_natCast]
      unfold namesB
      rw [List.getElem?_map]
      have : k < nameL.length := hk2
      rw [List.getElem?_eq_getElem this]; rfl
    rw [h1]
    exact wd_lit (hno k hk2)
  · intro s hs
    have hs : s ∈ (formOf x.op).flatMap (fieldW x) := hs
    obtain ⟨c, hcm, hs⟩ := List.mem_flatMap.1 hs
    have hfo : formOf x.op = letF k ++ (if manyF k then [42] else []) := by unfold formOf; rw [hk, Int.toNat_natCast, f3]
    rw [hfo, List.mem_append] at hcm
    have hc2 : c ∈ letF k ∨ c = 42 := by
      rcases hcm with h | h
      · exact Or.inl h
      · split at h
        · exact Or.inr (by simpa using h)
        · cases h
    rcases hc2 with h | rfl
    · have hin : (letF k).contains c = true := by simpa using h
      rcases f1 c h with rfl | rfl | rfl | rfl | rfl | rfl | rfl | rfl
      · have hs : s ∈ [bsOf (dg x.dst)] := hs
        rw [List.mem_singleton] at hs; subst hs; exact wd_dg _
      · have hs : s ∈ [bsOf (dg x.a)] := hs
        rw [List.mem_singleton] at hs; subst hs; exact wd_dg _
      · have hs : s ∈ [bsOf (dg x.b)] := hs
        rw [List.mem_singleton] at hs; subst hs; exact wd_dg _
      · have hs : s ∈ [bsOf (dg x.n)] := hs
        rw [List.mem_singleton] at hs; subst hs; exact wd_dg _
      · have hs : s ∈ [(opersB[(x.n - 1).toNat]?).getD ByteArray.empty] := hs
        rw [List.mem_singleton] at hs
        have hk4 : k = 4 := by
          rcases Classical.em (k = 4) with h' | h'
          · exact h'
          · exact absurd h (u10 h')
        have hn4 := h4 (by rw [hk, hk4]; rfl)
        have h1 : (opersB[(x.n - 1).toNat]?).getD ByteArray.empty = bsOf ((operL[(x.n - 1).toNat]?).getD []) := by
          unfold opersB
          rw [List.getElem?_map]
          have : (x.n - 1).toNat < operL.length := by show _ < 5; omega
          rw [List.getElem?_eq_getElem this]; rfl
        rw [hs, h1]
        exact wd_lit (hoo _ (by omega))
      · have hs : s ∈ [x.cls] := hs
        rw [List.mem_singleton] at hs; subst hs
        exact wd_ident (hc (by rw [hk, ← u6]; exact hin))
      · have hs : s ∈ [x.name] := hs
        rw [List.mem_singleton] at hs; subst hs
        exact wd_ident (hn (by rw [hk, ← u7]; exact hin))
      · have hs : s ∈ [bsOf (dg x.jmp)] := hs
        rw [List.mem_singleton] at hs; subst hs; exact wd_dg _
    · have hs : s ∈ x.args.map (fun v => bsOf (dg v)) := hs
      obtain ⟨v, _, rfl⟩ := List.mem_map.1 hs
      exact wd_dg _
theorem clsW_of {u : Unt} (H : UntV u) : ∀ c ∈ u.classes, ClsW c := fun c hc => by
  obtain ⟨i, hi, rfl⟩ := List.getElem_of_mem hc
  have h := H.cls i hi
  refine ⟨wd_ident h.name, fun hs => wd_ident (H.fnd (h.sup hs)), fun f hf => ⟨wd_ident (h.fields f hf).1, wd_ty H (h.fields f hf).2⟩, fun m hm => ?_⟩
  obtain ⟨h1, h2, h3, h4⟩ := h.methods m hm
  refine ⟨wd_ident h1, fun p hp => wd_ty H (h3 p hp), fun he => ?_⟩
  rw [he, Bool.false_or] at h4
  exact ⟨wd_ty H h4, nodash (ty_part H h4).2⟩
theorem wd_varNm {s : ByteArray} (h : varNmB s = true) : WdOk s := by
  unfold varNmB at h
  split at h
  · rename_i h1
    have hn : natL ((toL s).drop 1) = true := h
    have hp : (toL s).take 1 = [36] := by
      have := h1.2
      unfold Lib.hasPrefix at this
      obtain ⟨t, ht⟩ := List.isPrefixOf_iff_prefix.1 this
      rw [← ht]; rfl
    have e : toL s = 36 :: (toL s).drop 1 := by
      have := List.take_append_drop 1 (toL s)
      rw [hp] at this
      exact this.symm
    refine wdOk_of ?_ ?_
    · rw [← toL_len, e]; simp
    · rw [e, List.all_cons]
      cases hd : (toL s).drop 1 with
      | nil => rfl
      | cons c r =>
        rw [hd] at hn
        unfold natL at hn
        rw [Bool.and_eq_true] at hn
        refine Bool.and_eq_true_iff.2 ⟨rfl, ?_⟩
        have h2 := hn.2
        rw [List.all_eq_true] at h2 ⊢
        intro d hd
        have := h2 d hd
        simp only [Bool.and_eq_true, decide_eq_true_eq] at this ⊢
        omega
  · exact wd_ident h
theorem funW_of {u : Unt} (H : UntV u) (hI : ∀ f ∈ u.funcs, ∀ x ∈ f.code, InsI x) : ∀ f ∈ u.funcs, FunW f := fun f hf => by
  obtain ⟨k, hk, rfl⟩ := List.getElem_of_mem hf
  obtain ⟨p, hp, hv⟩ := H.fn k hk
  obtain ⟨c, hc, h1, h2⟩ := mthL_mem (List.mem_of_getElem? hp)
  have hb := hv.bel
  rw [belB_def] at hb
  simp only [Bool.and_eq_true] at hb
  have he := hb.1.1.1.1
  unfold belEq at he
  simp only [Bool.and_eq_true] at he
  obtain ⟨j, hj, rfl⟩ := List.getElem_of_mem hc
  have hm := (H.cls j hj).methods p.2 h2
  refine ⟨by rw [eqS_iff.1 he.1, h1]; exact wd_ident (H.clsName hc), by rw [eqS_iff.1 he.2.1]; exact wd_ident hm.1, fun v hv' => ?_, fun x hx => ?_⟩
  · obtain ⟨i, hi, rfl⟩ := List.getElem_of_mem hv'
    have hvr := hv.vars i hi
    rw [vrE_def] at hvr
    split at hvr
    · cases hvr
    rename_i g1
    split at hvr
    · cases hvr
    rename_i g2
    constructor
    · unfold vrB1 at g1
      cases hn : varNmB u.funcs[k].vars[i].name with
      | true => exact wd_varNm hn
      | false =>
        rw [hn] at g1
        cases ht : (u.funcs[k].vars[i].name.toList == [116, 104, 105, 115]) with
        | true => rw [eqW.1 ht]; exact wd_lit (by decide)
        | false => rw [ht] at g1; exact absurd rfl g1
    · unfold vrB2 at g2
      cases hn : (u.funcs[k].vars[i].typ.toList == [105, 110, 116]) with
      | true => rw [eqW.1 hn]; exact wd_lit (by decide)
      | false =>
        cases ht : (u.funcs[k].vars[i].typ.toList == [110, 117, 108, 108]) with
        | true => rw [eqW.1 ht]; exact wd_lit (by decide)
        | false =>
          rw [hn, ht] at g2
          have : ¬ Go.Proofs.YticpeombillmeaaGreatDoor.fnd u.classes u.funcs[k].vars[i].typ < 0 := fun h => g2 (by rw [decide_eq_true h]; rfl)
          exact wd_ident (H.fnd (by omega))
  · have hi2 := hI _ hf x hx
    obtain ⟨i, hi, rfl⟩ := List.getElem_of_mem hx
    have h4 := hv.code i hi
    obtain ⟨h8, h9, h10⟩ := UntV.kindOp h4
    obtain ⟨n1, n2⟩ := H.insN h4
    exact ⟨insW_wd h8 h9 h10 n1 n2, insP_insW hi2 h8 h9 h10 h4.zero⟩

/-! ### What the text leaves out -/
theorem fnd_le {cs : List Cls} {s : ByteArray} {i j : Nat} (h : fnd cs s = i) (hj : j < cs.length) (hs : cs[j].name = s) : i ≤ j := by
  unfold fnd idxI at h
  cases hq : cs.findIdx? (isCls s) with
  | none =>
    rw [hq] at h; simp at h
  | some q =>
    rw [hq] at h
    have h : (q : Int) = i := h
    obtain ⟨_, _, h3⟩ := List.findIdx?_eq_some_iff_getElem.1 hq
    rcases Nat.lt_or_ge j i with h4 | h4
    · have := h3 j (by omega)
      unfold isCls at this
      rw [hs] at this
      simp at this
    · exact h4
theorem idx_le {ms : List Sg} {s : ByteArray} {i j : Nat} (h : ¬ idxI (isSg s) ms < i) (hj : j < ms.length) (hs : ms[j].name = s) : i ≤ j := by
  unfold idxI at h
  cases hq : ms.findIdx? (isSg s) with
  | none =>
    rw [List.findIdx?_eq_none_iff] at hq
    have := hq _ (List.getElem_mem hj)
    unfold isSg at this
    rw [hs] at this
    simp at this
  | some q =>
    rw [hq] at h
    have h : ¬ (q : Int) < i := h
    obtain ⟨_, _, h3⟩ := List.findIdx?_eq_some_iff_getElem.1 hq
    rcases Nat.lt_or_ge j q with h4 | h4
    · have := h3 j h4
      unfold isSg at this
      rw [hs] at this
      simp at this
    · omega
theorem findSome_at {α β : Type} {f : α → Option β} {l : List α} {i : Nat} {b : β} (hi : i < l.length) (hno : ∀ j (hj : j < i), f (l[j]'(by omega)) = none) (hy : f l[i] = some b) : l.findSome? f = some b := by
  induction l generalizing i with
  | nil => simp at hi
  | cons a l ih =>
    cases i with
    | zero =>
      have hy : f a = some b := hy
      rw [List.findSome?_cons, hy]
    | succ i =>
      have h0 : f a = none := hno 0 (by omega)
      rw [List.findSome?_cons, h0]
      exact ih (i := i) (by simpa using hi) (fun j hj => by have := hno (j + 1) (by omega); simpa using this) (by simpa using hy)
theorem find_at {ms : List Sg} {s : ByteArray} {j : Nat} (hj : j < ms.length) (hs : ms[j].name = s) (hno : ¬ idxI (isSg s) ms < j) : ms.find? (isSg s) = some ms[j] := by
  rw [List.find?_eq_some_iff_getElem]
  refine ⟨by unfold isSg; rw [hs]; simp, j, hj, rfl, fun i hi => ?_⟩
  unfold isSg
  rw [Bool.not_eq_true']
  cases hq : (ms[i].name.toList == s.toList) with
  | false => rfl
  | true =>
    have := idx_le hno (by omega) (eqS_iff.1 hq)
    omega
theorem cls_mth {u : Unt} (h : (chkE u).2.2 = 0) {i : Nat} (hi : i < u.classes.length) {j : Nat} (hj : j < u.classes[i].methods.length) : ¬ idxI (isSg u.classes[i].methods[j].name) u.classes[i].methods < j := by
  have hu : uniE u = 0 := by
    rcases Classical.em (uniE u = 0) with h1 | h1
    · exact h1
    · unfold chkE at h; rw [if_pos h1] at h; exact absurd h h1
  obtain ⟨h1, _⟩ := uniE_parts hu
  obtain ⟨_, h8⟩ := hierE_valid h1
  obtain ⟨_, _, _, _, _, _, h9⟩ := clsE_parts (h8 i hi)
  exact (mthE_parts (h9 j hj)).2.1
theorem methodOf_at {u : Unt} (h : (chkE u).2.2 = 0) {p : ByteArray × Sg} (hp : p ∈ mthL u.classes) : methodOf u.classes p.1 p.2.name = some p.2 := by
  have H := untV_of h
  obtain ⟨c, hc, h1, h2⟩ := mthL_mem hp
  obtain ⟨i, hi, rfl⟩ := List.getElem_of_mem hc
  obtain ⟨j, hj, h3⟩ := List.getElem_of_mem h2
  unfold methodOf
  refine findSome_at hi (fun q hq => ?_) ?_
  · rw [if_neg]
    intro e
    have := fnd_le (H.cls i hi).first (show q < u.classes.length by omega) ((eqS_iff.1 e).trans h1)
    omega
  · rw [if_pos (eqS_iff.2 h1.symm), ← h3]
    exact find_at hj rfl (cls_mth h hi hj)
theorem compl_bare {u : Unt} (h : (chkE u).2.2 = 0) : u.funcs.map (fun f => complF u.classes (bareF f)) = u.funcs := by
  have H := untV_of h
  refine List.ext_getElem (by simp) fun k hk1 hk => ?_
  rw [List.getElem_map]
  obtain ⟨p, hp, hv⟩ := H.fn k hk
  have hm := methodOf_at h (List.mem_of_getElem? hp)
  have hb := hv.bel
  unfold belB at hb
  simp only [Bool.and_eq_true, decide_eq_true_eq] at hb
  obtain ⟨⟨⟨⟨⟨⟨⟨b1, b2⟩, b3⟩, b4⟩, b5⟩, _⟩, _⟩, _⟩ := hb
  generalize u.funcs[k] = f at *
  obtain ⟨cl, nm, st, np, vs, re, code⟩ := f
  simp only at b1 b2 b3 b4 b5
  subst b1 b2
  unfold complF bareF
  simp only
  rw [hm]
  simp only
  rw [b3, b4, b5]
  congr 1
  unfold parL
  cases p.2.static <;> simp
theorem mthL_inv : ∀ {cs : List Cls} {q : Nat} {p : ByteArray × Sg}, (mthL cs)[q]? = some p → ∃ (j i : Nat) (hj : j < cs.length) (hi : i < cs[j].methods.length), q = mthN (cs.take j) + i ∧ p = (cs[j].name, cs[j].methods[i])
  | [], q, p, h => by simp [mthL] at h
  | c :: cs, q, p, h => by
    unfold mthL at h
    rw [List.flatMap_cons] at h
    rcases Nat.lt_or_ge q c.methods.length with hq | hq
    · rw [List.getElem?_append_left (by rw [List.length_map]; exact hq), List.getElem?_map, List.getElem?_eq_getElem hq] at h
      injection h with h
      exact ⟨0, q, by simp, hq, by simp [mthN], h.symm⟩
    · rw [List.getElem?_append_right (by rw [List.length_map]; exact hq), List.length_map] at h
      obtain ⟨j, i, hj, hi, h1, h2⟩ := mthL_inv (cs := cs) (q := q - c.methods.length) h
      refine ⟨j + 1, i, by simpa using hj, hi, ?_, h2⟩
      rw [List.take_succ_cons, mthN]
      omega
theorem mthL_nodup {u : Unt} (h : (chkE u).2.2 = 0) : ∀ (q k : Nat) (p p' : ByteArray × Sg), (mthL u.classes)[q]? = some p → (mthL u.classes)[k]? = some p' → p.1 = p'.1 → p.2.name = p'.2.name → q = k := by
  intro q k p p' hq hk e1 e2
  have H := untV_of h
  obtain ⟨j, i, hj, hi, rfl, rfl⟩ := mthL_inv hq
  obtain ⟨j', i', hj', hi', rfl, rfl⟩ := mthL_inv hk
  simp only at e1 e2
  have hjj : j = j' := by
    have a := fnd_le (H.cls j hj).first hj' e1.symm
    have b := fnd_le (H.cls j' hj').first hj e1
    omega
  subst hjj
  have a := idx_le (cls_mth h hj hi) hi' e2.symm
  have b := idx_le (cls_mth h hj hi') hi e2
  omega
theorem mainU {u : Unt} (h : (chkE u).2.2 = 0) : findU u.funcs (bsOf wMainC) (bsOf wMainM) = u.main := by
  have H := untV_of h
  obtain ⟨f, hf, hmb⟩ := H.main
  have hm0 := H.m0
  have hm1 := H.m1
  obtain ⟨k, hk⟩ : ∃ k : Nat, u.main = k := ⟨u.main.toNat, by omega⟩
  rw [hk] at hf hm1 ⊢
  rw [Int.toNat_natCast] at hf
  have hkl : k < u.funcs.length := by omega
  rw [List.getElem?_eq_getElem hkl] at hf
  injection hf with hf
  unfold mainB at hmb
  simp only [Bool.and_eq_true] at hmb
  have c1 := eqW.1 hmb.1.1.1.1
  have c2 := eqW.1 hmb.1.1.1.2
  have hbel : ∀ q (hq : q < u.funcs.length), ∃ p, (mthL u.classes)[q]? = some p ∧ u.funcs[q].cls = p.1 ∧ u.funcs[q].name = p.2.name := fun q hq => by
    obtain ⟨p, hp, hv⟩ := H.fn q hq
    have hb := hv.bel
    unfold belB at hb
    simp only [Bool.and_eq_true, decide_eq_true_eq] at hb
    exact ⟨p, hp, hb.1.1.1.1.1.1.1, hb.1.1.1.1.1.1.2⟩
  unfold findU
  refine idxI_at hkl (fun q hq => ?_) ?_
  · unfold isFun
    cases hh : (u.funcs[q].cls.toList == (bsOf wMainC).toList && u.funcs[q].name.toList == (bsOf wMainM).toList) with
    | false => rfl
    | true =>
      rw [Bool.and_eq_true] at hh
      have d1 := eqS_iff.1 hh.1
      have d2 := eqS_iff.1 hh.2
      obtain ⟨p, hp, e1, e2⟩ := hbel q (by omega)
      obtain ⟨p', hp', e1', e2'⟩ := hbel k hkl
      rw [hf] at e1' e2'
      have hnd := mthL_nodup h
      have hqk : q = k := by
        refine hnd q k p p' hp hp' ?_ ?_
        · rw [← e1, ← e1', d1, c1]
        · rw [← e2, ← e2', d2, c2]
      omega
  · unfold isFun
    rw [hf, c1, c2]
    simp
end Go.Proofs.YticpeombillmeaaGreatDoor
