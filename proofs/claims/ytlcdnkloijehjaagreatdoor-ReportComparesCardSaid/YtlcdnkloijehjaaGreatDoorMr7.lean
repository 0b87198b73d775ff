/-
  Joined (wip/merge.py): RqA, RqB, RqP.
-/
import Derived.Test.YtlcdnkloijehjaaGreatDoorRepT
import Derived.Test.YtlcdnkloijehjaaGreatDoorSpl
import Derived.Lib.AtoiAllCases

namespace Go.Proofs.YtlcdnkloijehjaaGreatDoor
open Go.RowKit
set_option linter.unusedVariables false

def digB (c : UInt8) : Bool := decide (48 ≤ c.toNat) && decide (c.toNat ≤ 57)
def valF (a : Nat) (c : UInt8) : Nat := 10 * a + (c.toNat - 48)
theorem digB_iff {c : UInt8} : digB c = true ↔ 48 ≤ c.toNat ∧ c.toNat ≤ 57 := by
  unfold digB
  simp
theorem dig_byte {d : Nat} (h : d < 10) : (48 + UInt8.ofNat d).toNat = 48 + d := by
  rcases (show d = 0 ∨ d = 1 ∨ d = 2 ∨ d = 3 ∨ d = 4 ∨ d = 5 ∨ d = 6 ∨ d = 7 ∨ d = 8 ∨ d = 9 by omega) with rfl | rfl | rfl | rfl | rfl | rfl | rfl | rfl | rfl | rfl <;> rfl
theorem dig_first {u : Nat} (h : u < 10) : Lib.decDigits u = [48 + UInt8.ofNat u] := by
  rw [Lib.decDigits_one h, UInt8.ofNat_add]
  rfl
theorem dec_all (u : Nat) : (Lib.decDigits u).all digB = true := by
  induction u using Nat.strongRecOn with
  | ind u ih =>
  by_cases h : u < 10
  · rw [dig_first h]
    have := dig_byte h
    simp only [List.all_cons, List.all_nil, Bool.and_true]
    rw [digB_iff]
    omega
  · rw [dig_last h, List.all_append, ih (u / 10) (by omega)]
    have := dig_byte (show u % 10 < 10 by omega)
    simp only [List.all_cons, List.all_nil, Bool.and_true, Bool.true_and]
    rw [digB_iff]
    omega
theorem dec_val (u : Nat) : (Lib.decDigits u).foldl valF 0 = u := by
  induction u using Nat.strongRecOn with
  | ind u ih =>
  by_cases h : u < 10
  · rw [dig_first h]
    have := dig_byte h
    simp only [List.foldl_cons, List.foldl_nil, valF]
    omega
  · rw [dig_last h, List.foldl_append, ih (u / 10) (by omega)]
    have := dig_byte (show u % 10 < 10 by omega)
    simp only [List.foldl_cons, List.foldl_nil, valF]
    omega
theorem dec_pos (u : Nat) : 1 ≤ (Lib.decDigits u).length := by
  by_cases h : u < 10
  · rw [dig_first h]; simp
  · rw [dig_last h]; simp
theorem dec_short (k : Nat) : ∀ u, 1 ≤ k → u < 10 ^ k → (Lib.decDigits u).length ≤ k := by
  induction k with
  | zero => intro u h; omega
  | succ k ih =>
    intro u _ hu
    by_cases h : u < 10
    · rw [dig_first h]; simp
    · rw [dig_last h, List.length_append]
      have hk : 1 ≤ k := by
        rcases k with _ | k
        · simp at hu; omega
        · omega
      have := ih (u / 10) hk (by rw [Nat.pow_succ] at hu; omega)
      simp only [List.length_cons, List.length_nil]
      omega
theorem parse_digs : ∀ (l : List UInt8) (acc : Nat), l.all digB = true → (acc + 1) * 10 ^ l.length ≤ 1000000000000000000 → Lib.parseUint10 acc l = .ok (l.foldl valF acc)
  | [], acc, _, _ => rfl
  | c :: r, acc, h, hb => by
    simp only [List.all_cons, Bool.and_eq_true] at h
    obtain ⟨h1, h2⟩ := h
    rw [digB_iff] at h1
    have h3 : (acc + 1) * 10 ^ (r.length + 1) = (acc * 10 + 10) * 10 ^ r.length := by rw [Nat.pow_succ, Nat.mul_comm (10 ^ r.length) 10, ← Nat.mul_assoc]; congr 1; omega
    rw [List.length_cons, h3] at hb
    have h4 : 1 ≤ 10 ^ r.length := Nat.one_le_pow _ _ (by omega)
    have h5 : acc * 10 + 10 ≤ (acc * 10 + 10) * 10 ^ r.length := Nat.le_mul_of_pos_right _ h4
    have h6 : (acc * 10 + (c.toNat - 48) + 1) * 10 ^ r.length ≤ (acc * 10 + 10) * 10 ^ r.length := Nat.mul_le_mul_right _ (by omega)
    unfold Lib.parseUint10
    rw [if_pos h1, if_neg (by omega), if_neg (by omega), parse_digs r _ h2 (by omega), List.foldl_cons]
    unfold valF
    rw [Nat.mul_comm 10 acc]
/-- The number of a word. -/
def numP (s : ByteArray) : Option Int := match Lib.atoiAll (toL s) with
  | .ok v => if 0 ≤ v ∧ v ≤ 1000000 ∧ dg v = toL s then some v else none
  | _ => none
theorem dg_nat (u : Nat) : dg (u : Int) = Lib.decDigits u := by
  unfold dg Lib.itoa
  rw [if_neg (by omega), Int.toNat_natCast]
theorem atoi_dec {u : Nat} (h : u ≤ 1000000) : Lib.atoiAll (Lib.decDigits u) = .ok (u : Int) := by
  have h1 := dec_all u
  have h2 := dec_short 7 u (by omega) (by omega)
  have h3 := dec_pos u
  have h4 := dec_val u
  have hp : Lib.parseMag (Lib.decDigits u) = .ok u := by
    unfold Lib.parseMag
    rw [if_neg (fun e => by rw [e] at h3; simp at h3), parse_digs _ 0 h1 ?_, h4]
    have : 10 ^ (Lib.decDigits u).length ≤ 10 ^ 7 := Nat.pow_le_pow_right (by omega) h2
    omega
  generalize Lib.decDigits u = l at *
  cases l with
  | nil => simp at h3
  | cons c r =>
    simp only [List.all_cons, Bool.and_eq_true] at h1
    have hc := digB_iff.1 h1.1
    rw [Lib.atoiAll_plain c r (by omega) (by omega), hp]
    show (if 9223372036854775808 ≤ u then Lib.NumEnd.range else Lib.NumEnd.ok (u : Int)) = _
    rw [if_neg (by omega)]
theorem numP_iff {s : ByteArray} {n : Int} : numP s = some n ↔ 0 ≤ n ∧ n ≤ 1000000 ∧ dg n = toL s := by
  constructor
  · intro h
    unfold numP at h
    split at h
    · split at h
      · injection h with h; subst h; assumption
      · cases h
    · cases h
  · rintro ⟨h0, h1, h2⟩
    obtain ⟨u, rfl⟩ : ∃ u : Nat, n = u := ⟨n.toNat, by omega⟩
    unfold numP
    rw [← h2, dg_nat, atoi_dec (by omega)]
    simp only
    rw [if_pos ⟨h0, h1, dg_nat u⟩]
theorem numP_dg {n : Int} (h0 : 0 ≤ n) (h1 : n ≤ 1000000) : numP (bsOf (dg n)) = some n := numP_iff.2 ⟨h0, h1, rfl⟩
/-- What the reference's loop reckons. -/
def rnF : Nat → Int → List UInt8 → Int
  | 0, acc, _ => acc
  | _ + 1, acc, [] => acc
  | k + 1, acc, c :: r => if digB c then rnF k (10 * acc + ((c.toNat : Int) - 48)) r else -1
theorem rnF_digs : ∀ (l : List UInt8) (k : Nat) (acc : Nat), l.all digB = true → l.length ≤ k → rnF k (acc : Int) l = (l.foldl valF acc : Nat)
  | [], k, acc, _, _ => by cases k <;> rfl
  | c :: r, 0, acc, _, h => by simp at h
  | c :: r, k + 1, acc, h, hk => by
    simp only [List.all_cons, Bool.and_eq_true] at h
    have hc := digB_iff.1 h.1
    have e : (10 * (acc : Int) + ((c.toNat : Int) - 48)) = ((valF acc c : Nat) : Int) := by unfold valF; omega
    rw [rnF, if_pos h.1, e, rnF_digs r k _ h.2 (by simpa using hk), List.foldl_cons]
theorem rnF_num (s : ByteArray) : (if rnF 8 0 (toL s) < 0 ∨ 1000000 < rnF 8 0 (toL s) ∨ dg (rnF 8 0 (toL s)) ≠ toL s then none else some (rnF 8 0 (toL s))) = numP s := by
  by_cases h : rnF 8 0 (toL s) < 0 ∨ 1000000 < rnF 8 0 (toL s) ∨ dg (rnF 8 0 (toL s)) ≠ toL s
  · rw [if_pos h]
    cases hn : numP s with
    | none => rfl
    | some n =>
      obtain ⟨h0, h1, h2⟩ := numP_iff.1 hn
      obtain ⟨u, rfl⟩ : ∃ u : Nat, n = u := ⟨n.toNat, by omega⟩
      rw [dg_nat] at h2
      have h3 := rnF_digs (toL s) 8 0 (by rw [← h2]; exact dec_all u) (by rw [← h2]; have := dec_short 7 u (by omega) (by omega); omega)
      rw [← h2, dec_val u] at h3
      have h3' : rnF 8 0 (Lib.decDigits u) = (u : Int) := h3
      rw [← h2, h3'] at h
      rcases h with h | h | h
      · omega
      · omega
      · exact absurd (dg_nat u) h
  · rw [if_neg h]
    symm
    rw [numP_iff]
    refine ⟨by omega, by omega, ?_⟩
    exact Classical.byContradiction fun hn => h (Or.inr (Or.inr hn))
end Go.Proofs.YtlcdnkloijehjaaGreatDoor

namespace Go.Proofs.YtlcdnkloijehjaaGreatDoor
open Go.RowKit
set_option linter.unusedVariables false

def wdB (s : ByteArray) : Bool := (toL s).all prtU && decide (1 ≤ s.size)
/-- The words of the lines that end. -/
def lineW (l : List UInt8) : List ByteArray := (spl 32 l).map bsOf
def linesW (s : ByteArray) : List (List ByteArray) := ((spl 10 (toL s)).dropLast).map lineW
/-- What stands behind the last line feed. -/
def restN (s : ByteArray) : List UInt8 := (spl 10 (toL s)).getLast (spl_ne _ _)
/-- The text from line I on. -/
def sfx (s : ByteArray) (I : Nat) : List UInt8 := glue 10 ((spl 10 (toL s)).drop I)
def nilB : ByteArray := ⟨#[]⟩
def lineOk (nm : List UInt8) (n : Nat) (l : List ByteArray) : Bool := decide (l.length = n) && decide (toL (l.headD nilB) = nm) && l.all wdB
def wordsP (L : List (List ByteArray)) (I : Nat) (nm : List UInt8) (n : Nat) : Int × List ByteArray :=
  match L[I]? with
  | none => (21, [])
  | some l => if lineOk nm n l then (0, l) else (2, [])
def at0 (l : List ByteArray) (i : Nat) : ByteArray := l.getD i nilB
def cntP (L : List (List ByteArray)) (I : Nat) (nm : List UInt8) : Nat × Int × Int :=
  if (wordsP L I nm 2).1 = 0 then
    match numP (at0 (wordsP L I nm 2).2 1) with
    | some n => (I + 1, 0, n)
    | none => (I, 2, 0)
  else (I, (wordsP L I nm 2).1, 0)
def kindN (s : ByteArray) : Int := if toL s = kindW 1 then 1 else if toL s = kindW 2 then 2 else if toL s = kindW 3 then 3 else if toL s = kindW 4 then 4 else 0
def viasP (L : List (List ByteArray)) : Nat → Nat → List Plc → Nat × Int × List Plc
  | 0, I, acc => (I, 0, acc)
  | n + 1, I, acc =>
    if (wordsP L I wVia 4).1 = 0 then
      match numP (at0 (wordsP L I wVia 4).2 3) with
      | some a => viasP L n (I + 1) (acc ++ [⟨at0 (wordsP L I wVia 4).2 1, at0 (wordsP L I wVia 4).2 2, a⟩])
      | none => (I, 2, acc)
    else (I, (wordsP L I wVia 4).1, acc)
def fnd0 : Fnd := ⟨0, ⟨nilB, nilB, 0⟩, nilB, []⟩
def fndOf (L : List (List ByteArray)) (I : Nat) (w : List ByteArray) (a n : Int) : Nat × Int × Fnd :=
  ((viasP L n.toNat (I + 1) []).1, (viasP L n.toNat (I + 1) []).2.1, ⟨kindN (at0 w 1), ⟨at0 w 2, at0 w 3, a⟩, at0 w 5, (viasP L n.toNat (I + 1) []).2.2⟩)
def findP (L : List (List ByteArray)) (I : Nat) : Nat × Int × Fnd :=
  if (wordsP L I wFnd 7).1 = 0 then
    if kindN (at0 (wordsP L I wFnd 7).2 1) = 0 then (I, 2, fnd0)
    else match numP (at0 (wordsP L I wFnd 7).2 4), numP (at0 (wordsP L I wFnd 7).2 6) with
      | some a, some n => fndOf L I (wordsP L I wFnd 7).2 a n
      | _, _ => (I, 2, fnd0)
  else (I, (wordsP L I wFnd 7).1, fnd0)
def opnP (L : List (List ByteArray)) : Nat → Nat → List Fnd → Nat × Int × List Fnd
  | 0, I, acc => (I, 0, acc)
  | n + 1, I, acc => if (findP L I).2.1 = 0 then opnP L n (findP L I).1 (acc ++ [(findP L I).2.2]) else ((findP L I).1, (findP L I).2.1, acc)
def hdn1 (L : List (List ByteArray)) (I : Nat) : Nat × Int × Hdn :=
  if (cntP L I wNote).2.1 = 0 then ((findP L (cntP L I wNote).1).1, (findP L (cntP L I wNote).1).2.1, ⟨(findP L (cntP L I wNote).1).2.2, (cntP L I wNote).2.2⟩)
  else ((cntP L I wNote).1, (cntP L I wNote).2.1, ⟨fnd0, 0⟩)
def hdnP (L : List (List ByteArray)) : Nat → Nat → List Hdn → Nat × Int × List Hdn
  | 0, I, acc => (I, 0, acc)
  | n + 1, I, acc => if (hdn1 L I).2.1 = 0 then hdnP L n (hdn1 L I).1 (acc ++ [(hdn1 L I).2.2]) else ((hdn1 L I).1, (hdn1 L I).2.1, acc)
def unsP (L : List (List ByteArray)) : Nat → Nat → List Int → Nat × Int × List Int
  | 0, I, acc => (I, 0, acc)
  | n + 1, I, acc => if (cntP L I wIdx).2.1 = 0 then unsP L n (cntP L I wIdx).1 (acc ++ [(cntP L I wIdx).2.2]) else ((cntP L I wIdx).1, (cntP L I wIdx).2.1, acc)
/-- One section: its count, then its elements. -/
def secP {α : Type} (L : List (List ByteArray)) (nm : List UInt8) (el : Nat → Nat → List α → Nat × Int × List α) (I : Nat) : Nat × Int × List α :=
  if (cntP L I nm).2.1 = 0 then el (cntP L I nm).2.2.toNat (cntP L I nm).1 [] else ((cntP L I nm).1, (cntP L I nm).2.1, [])
def rpt0 : Rpt := ⟨[], [], []⟩
def sec1 (L : List (List ByteArray)) : Nat × Int × List Fnd := secP L wOpn (opnP L) 0
def sec2 (L : List (List ByteArray)) : Nat × Int × List Hdn := secP L wHdn (hdnP L) (sec1 L).1
def sec3 (L : List (List ByteArray)) : Nat × Int × List Int := secP L wUns (unsP L) (sec2 L).1
def parL (L : List (List ByteArray)) (more : Bool) : Rpt × Int × Int :=
  if (sec1 L).2.1 ≠ 0 then (rpt0, (sec1 L).1 + 1, (sec1 L).2.1)
  else if (sec2 L).2.1 ≠ 0 then (rpt0, (sec2 L).1 + 1, (sec2 L).2.1)
  else if (sec3 L).2.1 ≠ 0 then (rpt0, (sec3 L).1 + 1, (sec3 L).2.1)
  else if (sec3 L).1 < L.length ∨ more = true then (rpt0, (sec3 L).1 + 1, 2)
  else if rptE ⟨(sec1 L).2.2, (sec2 L).2.2, (sec3 L).2.2⟩ ≠ 0 then (rpt0, 0, rptE ⟨(sec1 L).2.2, (sec2 L).2.2, (sec3 L).2.2⟩)
  else (⟨(sec1 L).2.2, (sec2 L).2.2, (sec3 L).2.2⟩, 0, 0)
/-- What Parse returns. -/
def parR (s : ByteArray) : Rpt × Int × Int := if 1048576 < s.size then (rpt0, 0, 3) else parL (linesW s) (decide (restN s ≠ []))

/-! ### The text behind a line -/
theorem linesW_len (s : ByteArray) : (linesW s).length + 1 = (spl 10 (toL s)).length := by
  unfold linesW
  have := List.length_pos_iff.2 (spl_ne 10 (toL s))
  rw [List.length_map, List.length_dropLast]
  omega
theorem linesW_le (s : ByteArray) : (linesW s).length ≤ s.size := by
  have h1 := linesW_len s
  have h2 := spl_len 10 (toL s)
  rw [toL_len] at h2
  omega
theorem sfx_zero (s : ByteArray) : sfx s 0 = toL s := by unfold sfx; rw [List.drop_zero, glue_spl]
theorem spl_sfx {s : ByteArray} {I : Nat} (h : I ≤ (linesW s).length) : spl 10 (sfx s I) = (spl 10 (toL s)).drop I := by
  have h1 := linesW_len s
  unfold sfx
  refine spl_glue (fun e => ?_) (fun x hx => spl_mem (List.mem_of_mem_drop hx))
  have := congrArg List.length e
  rw [List.length_drop, List.length_nil] at this
  omega
theorem sfx_len (s : ByteArray) (I : Nat) : (sfx s I).length ≤ s.size := by
  have key : ∀ (ls : List (List UInt8)) (I : Nat), (glue 10 (ls.drop I)).length ≤ (glue 10 ls).length := by
    intro ls
    induction ls with
    | nil => intro I; simp [glue]
    | cons x r ih =>
      intro I
      cases I with
      | zero => exact Nat.le_refl _
      | succ I =>
        rw [List.drop_succ_cons]
        refine Nat.le_trans (ih I) ?_
        cases r with
        | nil => simp [glue]
        | cons y r => simp [glue]; omega
  have := key (spl 10 (toL s)) I
  rw [glue_spl, toL_len] at this
  exact this
/-- A line is due. -/
theorem cut_due {s : ByteArray} {I : Nat} (h : I < (linesW s).length) : ∃ x, (linesW s)[I] = lineW x ∧ Lib.cut (sfx s I) [10] = (x, sfx s (I + 1), true) ∧ x.length ≤ s.size := by
  have h1 := linesW_len s
  have h2 := spl_sfx (Nat.le_of_lt h)
  have h3 : I < (spl 10 (toL s)).length := by omega
  have h4 : I + 1 < (spl 10 (toL s)).length := by omega
  rw [List.drop_eq_getElem_cons h3, List.drop_eq_getElem_cons h4] at h2
  obtain ⟨t, ht, ht2, ht3⟩ := cut_first h2
  refine ⟨(spl 10 (toL s))[I], ?_, ?_, ?_⟩
  · simp only [linesW, List.getElem_map, List.getElem_dropLast]
  · rw [ht]
    have : t = sfx s (I + 1) := by
      rw [← glue_spl 10 t, ht2, ← List.drop_eq_getElem_cons h4]
      rfl
    rw [this]
  · have := spl_piece (c := 10) (l := toL s) (List.getElem_mem h3)
    rw [toL_len] at this
    exact this
/-- No line is due. -/
theorem cut_end {s : ByteArray} {I : Nat} (h : I = (linesW s).length) : (linesW s)[I]? = none ∧ (Lib.cut (sfx s I) [10]).2.2 = false ∧ sfx s I = restN s := by
  have h1 := linesW_len s
  have h2 := spl_sfx (Nat.le_of_eq h)
  have h3 : I < (spl 10 (toL s)).length := by omega
  have h5 : (spl 10 (toL s)).drop (I + 1) = [] := List.drop_eq_nil_of_le (by omega)
  rw [List.drop_eq_getElem_cons h3, h5] at h2
  obtain ⟨e1, e2⟩ := cut_last h2
  refine ⟨List.getElem?_eq_none (by omega), by rw [e2], ?_⟩
  rw [← e1]
  unfold restN
  rw [List.getLast_eq_getElem]
  congr 1
  omega
end Go.Proofs.YtlcdnkloijehjaaGreatDoor

namespace Go.Proofs.YtlcdnkloijehjaaGreatDoor
open Go.RowKit
set_option linter.unusedVariables false

/-! ### The lines of a report -/
def cntL (nm : List UInt8) (n : Int) : List ByteArray := [bsOf nm, bsOf (dg n)]
def viaL (p : Plc) : List ByteArray := [bsOf wVia, p.cls, p.mth, bsOf (dg p.ins)]
def fndHL (f : Fnd) : List ByteArray := [bsOf wFnd, bsOf (kindW f.kind), f.plc.cls, f.plc.mth, bsOf (dg f.plc.ins), f.what, bsOf (dg f.path.length)]
def fndL (f : Fnd) : List (List ByteArray) := fndHL f :: f.path.map viaL
def hdnL (h : Hdn) : List (List ByteArray) := cntL wNote h.note :: fndL h.f
def rptL (r : Rpt) : List (List ByteArray) := cntL wOpn r.opn.length :: (r.opn.flatMap fndL ++ (cntL wHdn r.hdn.length :: (r.hdn.flatMap hdnL ++ (cntL wUns r.uns.length :: r.uns.map (cntL wIdx)))))
def lnT (l : List ByteArray) : List UInt8 := glue 32 (l.map toL) ++ [10]

theorem cntL_T (nm : List UInt8) (n : Int) : lnT (cntL nm n) = nm ++ [32] ++ dg n ++ [10] := by
  simp [lnT, cntL, glue, toL_bsOf]
theorem viaL_T (p : Plc) : lnT (viaL p) = viaT p := by
  simp [lnT, viaL, glue, toL_bsOf, viaT, placeT]
theorem fndHL_T (f : Fnd) : lnT (fndHL f) = fndH f := by
  simp [lnT, fndHL, glue, toL_bsOf, fndH, placeT]
theorem fndL_T (f : Fnd) : (fndL f).flatMap lnT = fndT f := by
  unfold fndL fndT
  rw [List.flatMap_cons, fndHL_T, List.flatMap_map]
  simp only [viaL_T]
theorem flat_flat {α β γ : Type} (f : α → List β) (g : β → List γ) (l : List α) : (l.flatMap f).flatMap g = l.flatMap fun x => (f x).flatMap g := by
  induction l with
  | nil => rfl
  | cons x r ih => simp [List.flatMap_cons, List.flatMap_append, ih]
theorem rptL_T (r : Rpt) : (rptL r).flatMap lnT = rptT r := by
  unfold rptL rptT
  simp only [List.flatMap_cons, List.flatMap_append, flat_flat, List.flatMap_map, cntL_T]
  have e1 : (fun x => (fndL x).flatMap lnT) = fndT := funext fndL_T
  have e2 : (fun x => (hdnL x).flatMap lnT) = hdnT := funext fun h => by
    unfold hdnL hdnT
    rw [List.flatMap_cons, fndL_T, cntL_T]
    rfl
  have e3 : (fun x => wIdx ++ [32] ++ dg x ++ [10]) = idxT := rfl
  rw [e1, e2, e3]
  simp [headL, List.append_assoc]

/-! ### A text is the text of its lines -/
theorem glue_last (c : UInt8) (last : List UInt8) : ∀ xs : List (List UInt8), glue c (xs ++ [last]) = xs.flatMap (fun x => x ++ [c]) ++ last
  | [] => rfl
  | [x] => by simp [glue]
  | x :: y :: r => by
    have ih := glue_last c last (y :: r)
    simp only [List.cons_append, glue, List.flatMap_cons] at ih ⊢
    rw [ih]
    simp
theorem lineW_T (x : List UInt8) : lnT (lineW x) = x ++ [10] := by
  unfold lnT lineW
  rw [List.map_map]
  have : (toL ∘ bsOf) = id := by funext x; exact toL_bsOf x
  rw [this, List.map_id, glue_spl]
theorem text_lines (s : ByteArray) : toL s = (linesW s).flatMap lnT ++ restN s := by
  have h1 : spl 10 (toL s) = (spl 10 (toL s)).dropLast ++ [restN s] := (List.dropLast_concat_getLast (spl_ne _ _)).symm
  have h2 := glue_spl 10 (toL s)
  rw [h1, glue_last] at h2
  rw [← h2]
  unfold linesW
  rw [List.flatMap_map]
  simp only [lineW_T]

/-! ### What is read has these lines -/
section
variable {L : List (List ByteArray)}
theorem wordsP_got {I : Nat} {nm : List UInt8} {n : Nat} (h : (wordsP L I nm n).1 = 0) : ∃ l, L[I]? = some l ∧ (wordsP L I nm n).2 = l ∧ l.length = n ∧ toL (l.headD nilB) = nm := by
  unfold wordsP at h ⊢
  split at h
  · simp at h
  · rename_i l hl
    split at h
    · rename_i hk
      rw [hk]
      unfold lineOk at hk
      simp only [Bool.and_eq_true, decide_eq_true_eq] at hk
      exact ⟨l, hl, by simp, hk.1.1, hk.1.2⟩
    · simp at h
theorem cntP_ok {I J : Nat} {nm : List UInt8} {n : Int} (h : cntP L I nm = (J, 0, n)) : J = I + 1 ∧ L[I]? = some (cntL nm n) := by
  unfold cntP at h
  split at h
  · rename_i h0
    obtain ⟨l, h1, h2, h3, h4⟩ := wordsP_got h0
    rw [h2] at h
    split at h
    · rename_i m hm
      injection h with e1 e2
      injection e2 with e2 e3
      subst e1 e3
      refine ⟨rfl, ?_⟩
      rw [h1]
      match l, h3 with
      | [a, b], _ =>
        have ha : toL a = nm := h4
        have hb := (numP_iff.1 hm).2.2
        have hb' : dg m = toL b := hb
        unfold cntL
        rw [bsOf_toL ha, bsOf_toL hb'.symm]
    · injection h with e1 e2
      injection e2 with e2 e3
      cases e2
  · rename_i h0
    injection h with e1 e2
    injection e2 with e2 e3
    exact absurd e2 h0
theorem drop_at {α : Type} {l : List α} {I : Nat} {x : α} (h : l[I]? = some x) : l.drop I = x :: l.drop (I + 1) := by
  obtain ⟨hi, e⟩ := List.getElem?_eq_some_iff.1 h
  rw [List.drop_eq_getElem_cons hi, e]
theorem viasP_ok : ∀ (n I : Nat) (acc out : List Plc) (J : Nat), viasP L n I acc = (J, 0, out) → ∃ ps, out = acc ++ ps ∧ ps.length = n ∧ L.drop I = ps.map viaL ++ L.drop J
  | 0, I, acc, out, J, h => by
    injection h with e1 e2
    injection e2 with e2 e3
    subst e1 e3
    exact ⟨[], by simp, rfl, by simp⟩
  | n + 1, I, acc, out, J, h => by
    unfold viasP at h
    split at h
    · rename_i h0
      obtain ⟨l, h1, h2, h3, h4⟩ := wordsP_got h0
      rw [h2] at h
      split at h
      · rename_i a ha
        obtain ⟨ps, e1, e2, e3⟩ := viasP_ok n (I + 1) _ out J h
        refine ⟨_ :: ps, by rw [e1, List.append_assoc]; rfl, by simp [e2], ?_⟩
        rw [drop_at h1, e3, List.map_cons, List.cons_append]
        congr 1
        match l, h3 with
        | [x, y, z, t], _ =>
          have hx : toL x = wVia := h4
          have ht : dg a = toL t := (numP_iff.1 ha).2.2
          unfold viaL
          rw [bsOf_toL hx, bsOf_toL ht.symm]
          rfl
      · injection h with e1 e2
        injection e2 with e2 e3
        cases e2
    · rename_i h0
      injection h with e1 e2
      injection e2 with e2 e3
      exact absurd e2 h0
theorem kindN_ok {s : ByteArray} (h : kindN s ≠ 0) : bsOf (kindW (kindN s)) = s := by
  unfold kindN at h ⊢
  split
  · rename_i h1; exact (bsOf_toL h1).symm
  · split
    · rename_i h1; exact (bsOf_toL h1).symm
    · split
      · rename_i h1; exact (bsOf_toL h1).symm
      · split
        · rename_i h1; exact (bsOf_toL h1).symm
        · rename_i h1 h2 h3 h4
          rw [if_neg h1, if_neg h2, if_neg h3, if_neg h4] at h
          exact absurd rfl h
theorem findP_ok {I J : Nat} {f : Fnd} (h : findP L I = (J, 0, f)) : L.drop I = fndL f ++ L.drop J := by
  unfold findP at h
  split at h
  · rename_i h0
    obtain ⟨l, h1, h2, h3, h4⟩ := wordsP_got h0
    rw [h2] at h
    split at h
    · injection h with e1 e2
      injection e2 with e2 e3
      cases e2
    · rename_i hk
      split at h
      · rename_i a n ha hn
        unfold fndOf at h
        injection h with e1 e2
        injection e2 with e2 e3
        obtain ⟨ps, p1, p2, p3⟩ := viasP_ok n.toNat (I + 1) [] (viasP L n.toNat (I + 1) []).2.2 J (by rw [← e1, ← e2])
        rw [List.nil_append] at p1
        have hn' := numP_iff.1 hn
        rw [drop_at h1, p3, ← e3]
        unfold fndL fndHL
        simp only [List.cons_append]
        rw [p1]
        congr 1
        rw [p2, kindN_ok hk, show ((n.toNat : Nat) : Int) = n by omega]
        match l, h3 with
        | [x, y, z, t, u, v, q], _ =>
          have hx : toL x = wFnd := h4
          have hu : dg a = toL u := (numP_iff.1 ha).2.2
          have hq : dg n = toL q := hn'.2.2
          rw [bsOf_toL hx, show bsOf (dg a) = u from (bsOf_toL hu.symm).symm, show bsOf (dg n) = q from (bsOf_toL hq.symm).symm]
          rfl
      · injection h with e1 e2
        injection e2 with e2 e3
        cases e2
  · rename_i h0
    injection h with e1 e2
    injection e2 with e2 e3
    exact absurd e2 h0
theorem eta3 {α β γ : Type} (p : α × β × γ) : p = (p.1, p.2.1, p.2.2) := rfl
theorem opnP_ok : ∀ (n I : Nat) (acc out : List Fnd) (J : Nat), opnP L n I acc = (J, 0, out) → ∃ fs, out = acc ++ fs ∧ fs.length = n ∧ L.drop I = fs.flatMap fndL ++ L.drop J
  | 0, I, acc, out, J, h => by
    injection h with e1 e2
    injection e2 with e2 e3
    subst e1 e3
    exact ⟨[], by simp, rfl, by simp⟩
  | n + 1, I, acc, out, J, h => by
    unfold opnP at h
    split at h
    · rename_i h0
      obtain ⟨fs, e1, e2, e3⟩ := opnP_ok n _ _ out J h
      refine ⟨(findP L I).2.2 :: fs, by rw [e1, List.append_assoc]; rfl, by simp [e2], ?_⟩
      rw [findP_ok (L := L) (I := I) (J := (findP L I).1) (f := (findP L I).2.2) (by rw [← h0]), e3, List.flatMap_cons, List.append_assoc]
    · rename_i h0
      injection h with e1 e2
      injection e2 with e2 e3
      exact absurd e2 h0
theorem hdn1_ok {I J : Nat} {x : Hdn} (h : hdn1 L I = (J, 0, x)) : L.drop I = hdnL x ++ L.drop J := by
  unfold hdn1 at h
  split at h
  · rename_i h0
    injection h with e1 e2
    injection e2 with e2 e3
    obtain ⟨c1, c2⟩ := cntP_ok (L := L) (I := I) (nm := wNote) (J := (cntP L I wNote).1) (n := (cntP L I wNote).2.2) (by rw [← h0])
    rw [← e3, drop_at c2, ← c1, findP_ok (L := L) (I := (cntP L I wNote).1) (J := J) (f := (findP L (cntP L I wNote).1).2.2) (by rw [← e1, ← e2])]
    rfl
  · rename_i h0
    injection h with e1 e2
    injection e2 with e2 e3
    exact absurd e2 h0
theorem hdnP_ok : ∀ (n I : Nat) (acc out : List Hdn) (J : Nat), hdnP L n I acc = (J, 0, out) → ∃ fs, out = acc ++ fs ∧ fs.length = n ∧ L.drop I = fs.flatMap hdnL ++ L.drop J
  | 0, I, acc, out, J, h => by
    injection h with e1 e2
    injection e2 with e2 e3
    subst e1 e3
    exact ⟨[], by simp, rfl, by simp⟩
  | n + 1, I, acc, out, J, h => by
    unfold hdnP at h
    split at h
    · rename_i h0
      obtain ⟨fs, e1, e2, e3⟩ := hdnP_ok n _ _ out J h
      refine ⟨(hdn1 L I).2.2 :: fs, by rw [e1, List.append_assoc]; rfl, by simp [e2], ?_⟩
      rw [hdn1_ok (L := L) (I := I) (J := (hdn1 L I).1) (x := (hdn1 L I).2.2) (by rw [← h0]), e3, List.flatMap_cons, List.append_assoc]
    · rename_i h0
      injection h with e1 e2
      injection e2 with e2 e3
      exact absurd e2 h0
theorem unsP_ok : ∀ (n I : Nat) (acc out : List Int) (J : Nat), unsP L n I acc = (J, 0, out) → ∃ fs, out = acc ++ fs ∧ fs.length = n ∧ L.drop I = fs.map (cntL wIdx) ++ L.drop J
  | 0, I, acc, out, J, h => by
    injection h with e1 e2
    injection e2 with e2 e3
    subst e1 e3
    exact ⟨[], by simp, rfl, by simp⟩
  | n + 1, I, acc, out, J, h => by
    unfold unsP at h
    split at h
    · rename_i h0
      obtain ⟨fs, e1, e2, e3⟩ := unsP_ok n _ _ out J h
      obtain ⟨c1, c2⟩ := cntP_ok (L := L) (I := I) (nm := wIdx) (J := (cntP L I wIdx).1) (n := (cntP L I wIdx).2.2) (by rw [← h0])
      refine ⟨(cntP L I wIdx).2.2 :: fs, by rw [e1, List.append_assoc]; rfl, by simp [e2], ?_⟩
      rw [drop_at c2, ← c1, e3, List.map_cons, List.cons_append]
    · rename_i h0
      injection h with e1 e2
      injection e2 with e2 e3
      exact absurd e2 h0
end
theorem cntP_nn (L : List (List ByteArray)) (I : Nat) (nm : List UInt8) : 0 ≤ (cntP L I nm).2.2 := by
  unfold cntP
  split
  · split
    · rename_i n hn
      exact (numP_iff.1 hn).1
    · exact Int.le_refl _
  · exact Int.le_refl _
theorem secP_sound {α : Type} {L : List (List ByteArray)} {nm : List UInt8} {el : Nat → Nat → List α → Nat × Int × List α} {tl : List α → List (List ByteArray)} (hel : ∀ n I out J, el n I [] = (J, 0, out) → out.length = n ∧ L.drop I = tl out ++ L.drop J)
    {I J : Nat} {out : List α} (h : secP L nm el I = (J, 0, out)) : L.drop I = cntL nm out.length :: (tl out ++ L.drop J) := by
  unfold secP at h
  split at h
  · rename_i h0
    obtain ⟨c1, c2⟩ := cntP_ok (L := L) (I := I) (nm := nm) (J := (cntP L I nm).1) (n := (cntP L I nm).2.2) (by rw [← h0])
    obtain ⟨e1, e2⟩ := hel _ _ _ _ h
    have := cntP_nn L I nm
    rw [drop_at c2, ← c1, e2, e1, show ((((cntP L I nm).2.2).toNat : Nat) : Int) = (cntP L I nm).2.2 by omega]
  · rename_i h0
    injection h with e1 e2
    injection e2 with e2 e3
    exact absurd e2 h0
theorem parL_ok {L : List (List ByteArray)} {more : Bool} {r : Rpt} {n : Int} (h : parL L more = (r, n, 0)) : L = rptL r ∧ more = false ∧ rptE r = 0 ∧ n = 0 := by
  unfold parL at h
  split at h
  · rename_i h0; injection h with _ h; injection h with _ h; exact absurd h h0
  rename_i h1
  split at h
  · rename_i h0; injection h with _ h; injection h with _ h; exact absurd h h0
  rename_i h2
  split at h
  · rename_i h0; injection h with _ h; injection h with _ h; exact absurd h h0
  rename_i h3
  split at h
  · injection h with _ h; injection h with _ h; exact absurd h (by decide)
  rename_i h4
  split at h
  · rename_i h0; injection h with _ h; injection h with _ h; exact absurd h h0
  rename_i h5
  injection h with e1 e2
  injection e2 with e2 _
  subst e1
  simp only [ne_eq, Decidable.not_not] at h1 h2 h3 h5
  have s1 := secP_sound (L := L) (nm := wOpn) (el := opnP L) (tl := fun l => l.flatMap fndL) (I := 0) (J := (sec1 L).1) (out := (sec1 L).2.2) (fun n I out J h => by
    obtain ⟨fs, e1, e2, e3⟩ := opnP_ok n I [] out J h
    rw [List.nil_append] at e1
    subst e1
    exact ⟨e2, e3⟩) (by show sec1 L = _; rw [← h1])
  have s2 := secP_sound (L := L) (nm := wHdn) (el := hdnP L) (tl := fun l => l.flatMap hdnL) (I := (sec1 L).1) (J := (sec2 L).1) (out := (sec2 L).2.2) (fun n I out J h => by
    obtain ⟨fs, e1, e2, e3⟩ := hdnP_ok n I [] out J h
    rw [List.nil_append] at e1
    subst e1
    exact ⟨e2, e3⟩) (by show sec2 L = _; rw [← h2])
  have s3 := secP_sound (L := L) (nm := wUns) (el := unsP L) (tl := fun l => l.map (cntL wIdx)) (I := (sec2 L).1) (J := (sec3 L).1) (out := (sec3 L).2.2) (fun n I out J h => by
    obtain ⟨fs, e1, e2, e3⟩ := unsP_ok n I [] out J h
    rw [List.nil_append] at e1
    subst e1
    exact ⟨e2, e3⟩) (by show sec3 L = _; rw [← h3])
  rw [List.drop_zero, s2, s3, List.drop_eq_nil_of_le (show L.length ≤ (sec3 L).1 by omega), List.append_nil] at s1
  refine ⟨s1, ?_, h5, e2.symm⟩
  cases more with
  | false => rfl
  | true => exact absurd (Or.inr rfl) h4
/-- What is read has this text. -/
theorem parR_text {s : ByteArray} {r : Rpt} {n : Int} (h : parR s = (r, n, 0)) : bsOf (rptT r) = s ∧ rptE r = 0 ∧ n = 0 := by
  unfold parR at h
  split at h
  · injection h with _ h; injection h with _ h; exact absurd h (by decide)
  obtain ⟨h1, h2, h3, h4⟩ := parL_ok h
  refine ⟨?_, h3, h4⟩
  have h5 : restN s = [] := Classical.byContradiction fun hc => by rw [decide_eq_true hc] at h2; cases h2
  have h6 := text_lines s
  rw [h1, h5, rptL_T, List.append_nil] at h6
  exact (bsOf_toL h6).symm

/-! ### A valid report is read from its lines -/
theorem dg_prt {n : Int} (h : 0 ≤ n) : wdB (bsOf (dg n)) = true := by
  obtain ⟨u, rfl⟩ : ∃ u : Nat, n = u := ⟨n.toNat, by omega⟩
  unfold wdB
  rw [toL_bsOf, bsOf_size, dg_nat, decide_eq_true (dec_pos u), Bool.and_true, List.all_eq_true]
  intro c hc
  have := digB_iff.1 (List.all_eq_true.1 (dec_all u) c hc)
  unfold prtU
  simp only [Bool.and_eq_true, decide_eq_true_eq]
  omega
theorem wd_word {s : ByteArray} (h : wordB s = true) : wdB s = true := by
  unfold wordB at h
  simp only [Bool.and_eq_true] at h
  unfold wdB
  rw [h.1.1, h.2]
  rfl
theorem wd_ident {s : ByteArray} (h : identB s = true) : wdB s = true := wd_word (ident_word h)
theorem wd_what {k : Int} {s : ByteArray} (h : whatB k s = true) : wdB s = true := by
  cases hw : wordB s with
  | true => exact wd_word hw
  | false => rw [what_word hw] at h; cases h
theorem wd_kind {k : Int} (h : k = 1 ∨ k = 2 ∨ k = 3 ∨ k = 4) : wdB (bsOf (kindW k)) = true ∧ kindN (bsOf (kindW k)) = k := by
  rcases h with rfl | rfl | rfl | rfl <;> exact ⟨by decide, by decide⟩
theorem wordsP_at {L : List (List ByteArray)} {I : Nat} {l : List ByteArray} {nm : List UInt8} {n : Nat} (h : L[I]? = some l) (hk : lineOk nm n l = true) : wordsP L I nm n = (0, l) := by
  unfold wordsP
  rw [h]
  simp [hk]
theorem at_drop {α : Type} {l : List α} {I : Nat} {x : α} {R : List α} (h : l.drop I = x :: R) : l[I]? = some x ∧ l.drop (I + 1) = R := by
  have h1 : I < l.length := by
    rcases Nat.lt_or_ge I l.length with h2 | h2
    · exact h2
    · rw [List.drop_eq_nil_of_le h2] at h; cases h
  rw [List.drop_eq_getElem_cons h1] at h
  injection h with e1 e2
  exact ⟨by rw [List.getElem?_eq_getElem h1, e1], e2⟩
theorem cntL_ok {nm : List UInt8} {n : Int} (hn : wdB (bsOf nm) = true) (h0 : 0 ≤ n) : lineOk nm 2 (cntL nm n) = true := by
  unfold lineOk cntL
  simp [toL_bsOf, hn, dg_prt h0]
theorem cntP_line {L : List (List ByteArray)} {I : Nat} {nm : List UInt8} {n : Int} {R : List (List ByteArray)} (h : L.drop I = cntL nm n :: R) (hn : wdB (bsOf nm) = true) (h0 : 0 ≤ n) (h1 : n ≤ 1000000) : cntP L I nm = (I + 1, 0, n) ∧ L.drop (I + 1) = R := by
  obtain ⟨h2, h3⟩ := at_drop h
  refine ⟨?_, h3⟩
  unfold cntP
  rw [wordsP_at h2 (cntL_ok hn h0), if_pos rfl]
  have : numP (at0 (cntL nm n) 1) = some n := numP_dg h0 h1
  rw [this]
theorem viaL_ok {p : Plc} (h : PlcV p) : lineOk wVia 4 (viaL p) = true := by
  unfold lineOk viaL
  simp [toL_bsOf, wd_ident h.cls, wd_ident h.mth, dg_prt h.i0, show wdB (bsOf wVia) = true by decide]
theorem viasP_at {L : List (List ByteArray)} : ∀ (ps : List Plc) (I : Nat) (acc : List Plc) (R : List (List ByteArray)), (∀ p ∈ ps, PlcV p) → L.drop I = ps.map viaL ++ R → viasP L ps.length I acc = (I + ps.length, 0, acc ++ ps) ∧ L.drop (I + ps.length) = R
  | [], I, acc, R, _, h => ⟨by simp [viasP], by simpa using h⟩
  | p :: ps, I, acc, R, hv, h => by
    rw [List.map_cons, List.cons_append] at h
    obtain ⟨h2, h3⟩ := at_drop h
    have hp := hv p (by simp)
    obtain ⟨e1, e2⟩ := viasP_at ps (I + 1) (acc ++ [p]) R (fun q hq => hv q (by simp [hq])) h3
    refine ⟨?_, by rw [List.length_cons, show I + (ps.length + 1) = I + 1 + ps.length by omega]; exact e2⟩
    rw [List.length_cons, viasP, wordsP_at h2 (viaL_ok hp), if_pos rfl]
    have : numP (at0 (viaL p) 3) = some p.ins := numP_dg hp.i0 (by have := hp.i1; omega)
    rw [this]
    show viasP L ps.length (I + 1) (acc ++ [p]) = _
    rw [e1, List.append_assoc, show I + 1 + ps.length = I + (ps.length + 1) by omega]
    rfl
theorem fndHL_ok {f : Fnd} (h : FndV f) : lineOk wFnd 7 (fndHL f) = true := by
  unfold lineOk fndHL
  simp [toL_bsOf, (wd_kind h.kind).1, wd_ident h.plc.cls, wd_ident h.plc.mth, dg_prt h.plc.i0, wd_what h.what, dg_prt (show (0 : Int) ≤ f.path.length by omega), show wdB (bsOf wFnd) = true by decide]
theorem findP_at {L : List (List ByteArray)} {f : Fnd} {I : Nat} {R : List (List ByteArray)} (hv : FndV f) (h : L.drop I = fndL f ++ R) : findP L I = (I + (fndL f).length, 0, f) ∧ L.drop (I + (fndL f).length) = R := by
  unfold fndL at h
  rw [List.cons_append] at h
  obtain ⟨h2, h3⟩ := at_drop h
  obtain ⟨e1, e2⟩ := viasP_at f.path (I + 1) [] R hv.path h3
  have hk := (wd_kind hv.kind).2
  have hk0 : ¬ f.kind = 0 := by have := hv.kind; omega
  have hlen := hv.len
  have hi1 := hv.plc.i1
  constructor
  · unfold findP
    rw [wordsP_at h2 (fndHL_ok hv), if_pos rfl]
    have k1 : kindN (at0 (fndHL f) 1) = f.kind := hk
    have k2 : numP (at0 (fndHL f) 4) = some f.plc.ins := numP_dg hv.plc.i0 (by omega)
    have k3 : numP (at0 (fndHL f) 6) = some (f.path.length : Int) := numP_dg (by omega) (by omega)
    rw [k1, if_neg hk0, k2, k3]
    show fndOf L I (fndHL f) f.plc.ins (f.path.length : Int) = _
    unfold fndOf
    rw [Int.toNat_natCast, e1, k1]
    simp only [fndL, List.length_cons, List.length_map, List.nil_append]
    rw [show I + 1 + f.path.length = I + (f.path.length + 1) by omega]
    rfl
  · simp only [fndL, List.length_cons, List.length_map]
    rw [show I + (f.path.length + 1) = I + 1 + f.path.length by omega]
    exact e2
theorem opnP_at {L : List (List ByteArray)} : ∀ (fs : List Fnd) (I : Nat) (acc : List Fnd) (R : List (List ByteArray)), (∀ f ∈ fs, FndV f) → L.drop I = fs.flatMap fndL ++ R → opnP L fs.length I acc = (I + (fs.flatMap fndL).length, 0, acc ++ fs) ∧ L.drop (I + (fs.flatMap fndL).length) = R
  | [], I, acc, R, _, h => ⟨by simp [opnP], by simpa using h⟩
  | f :: fs, I, acc, R, hv, h => by
    rw [List.flatMap_cons, List.append_assoc] at h
    obtain ⟨h2, h3⟩ := findP_at (hv f (by simp)) h
    obtain ⟨e1, e2⟩ := opnP_at fs _ (acc ++ [f]) R (fun q hq => hv q (by simp [hq])) h3
    rw [List.flatMap_cons, List.length_append, ← Nat.add_assoc]
    refine ⟨?_, e2⟩
    rw [List.length_cons, opnP, h2, if_pos rfl]
    simp only
    rw [e1, List.append_assoc]
    rfl
theorem hdn1_at {L : List (List ByteArray)} {h : Hdn} {I : Nat} {R : List (List ByteArray)} (hv : FndV h.f) (h0 : 0 ≤ h.note) (h1 : h.note < 200) (hd : L.drop I = hdnL h ++ R) : hdn1 L I = (I + (hdnL h).length, 0, h) ∧ L.drop (I + (hdnL h).length) = R := by
  unfold hdnL at hd
  rw [List.cons_append] at hd
  obtain ⟨c1, c2⟩ := cntP_line hd (by decide) h0 (by omega)
  obtain ⟨e1, e2⟩ := findP_at hv c2
  have hl : (hdnL h).length = 1 + (fndL h.f).length := by unfold hdnL; rw [List.length_cons]; omega
  rw [hl, ← Nat.add_assoc]
  refine ⟨?_, e2⟩
  unfold hdn1
  rw [c1, if_pos rfl]
  simp only
  rw [e1]
theorem hdnP_at {L : List (List ByteArray)} : ∀ (fs : List Hdn) (I : Nat) (acc : List Hdn) (R : List (List ByteArray)), (∀ f ∈ fs, FndV f.f ∧ 0 ≤ f.note ∧ f.note < 200) → L.drop I = fs.flatMap hdnL ++ R → hdnP L fs.length I acc = (I + (fs.flatMap hdnL).length, 0, acc ++ fs) ∧ L.drop (I + (fs.flatMap hdnL).length) = R
  | [], I, acc, R, _, h => ⟨by simp [hdnP], by simpa using h⟩
  | f :: fs, I, acc, R, hv, h => by
    rw [List.flatMap_cons, List.append_assoc] at h
    obtain ⟨v1, v2, v3⟩ := hv f (by simp)
    obtain ⟨h2, h3⟩ := hdn1_at v1 v2 v3 h
    obtain ⟨e1, e2⟩ := hdnP_at fs _ (acc ++ [f]) R (fun q hq => hv q (by simp [hq])) h3
    rw [List.flatMap_cons, List.length_append, ← Nat.add_assoc]
    refine ⟨?_, e2⟩
    rw [List.length_cons, hdnP, h2, if_pos rfl]
    simp only
    rw [e1, List.append_assoc]
    rfl
theorem unsP_at {L : List (List ByteArray)} : ∀ (fs : List Int) (I : Nat) (acc : List Int) (R : List (List ByteArray)), (∀ n ∈ fs, 0 ≤ n ∧ n < 200) → L.drop I = fs.map (cntL wIdx) ++ R → unsP L fs.length I acc = (I + fs.length, 0, acc ++ fs) ∧ L.drop (I + fs.length) = R
  | [], I, acc, R, _, h => ⟨by simp [unsP], by simpa using h⟩
  | f :: fs, I, acc, R, hv, h => by
    rw [List.map_cons, List.cons_append] at h
    obtain ⟨v2, v3⟩ := hv f (by simp)
    obtain ⟨c1, c2⟩ := cntP_line h (by decide) v2 (by omega)
    obtain ⟨e1, e2⟩ := unsP_at fs (I + 1) (acc ++ [f]) R (fun q hq => hv q (by simp [hq])) c2
    rw [List.length_cons, show I + (fs.length + 1) = I + 1 + fs.length by omega]
    refine ⟨?_, e2⟩
    rw [unsP, c1, if_pos rfl]
    simp only
    rw [e1, List.append_assoc]
    rfl
theorem parL_at {r : Rpt} (hE : rptE r = 0) : parL (rptL r) false = (r, 0, 0) := by
  have hv := rptE_ok hE
  have n0 := hv.n0
  have n1 := hv.n1
  have n2 := hv.n2
  obtain ⟨L, hL⟩ : ∃ L, L = rptL r := ⟨_, rfl⟩
  have h0 : L.drop 0 = rptL r := by rw [hL, List.drop_zero]
  unfold rptL at h0
  obtain ⟨c1, d1⟩ := cntP_line h0 (by decide) (by omega) (by omega)
  obtain ⟨c2, d2⟩ := opnP_at r.opn _ [] _ hv.opn d1
  obtain ⟨c3, d3⟩ := cntP_line d2 (by decide) (by omega) (by omega)
  obtain ⟨c4, d4⟩ := hdnP_at r.hdn _ [] _ (fun h hh => ⟨hv.hdn h hh, hv.note h hh⟩) d3
  obtain ⟨c5, d5⟩ := cntP_line d4 (by decide) (by omega) (by omega)
  obtain ⟨c6, d6⟩ := unsP_at r.uns _ [] [] hv.uns (by rw [List.append_nil]; exact d5)
  have s1 : sec1 L = (0 + 1 + (r.opn.flatMap fndL).length, 0, r.opn) := by
    unfold sec1 secP
    rw [c1, if_pos rfl]
    simp only [Int.toNat_natCast]
    rw [c2]
    rfl
  have s2 : sec2 L = (0 + 1 + (r.opn.flatMap fndL).length + 1 + (r.hdn.flatMap hdnL).length, 0, r.hdn) := by
    unfold sec2 secP
    rw [s1]
    simp only
    rw [c3, if_pos rfl]
    simp only [Int.toNat_natCast]
    rw [c4]
    rfl
  have s3 : sec3 L = (0 + 1 + (r.opn.flatMap fndL).length + 1 + (r.hdn.flatMap hdnL).length + 1 + r.uns.length, 0, r.uns) := by
    unfold sec3 secP
    rw [s2]
    simp only
    rw [c5, if_pos rfl]
    simp only [Int.toNat_natCast]
    rw [c6]
    rfl
  have hlen := List.drop_eq_nil_iff.1 d6
  rw [← hL]
  unfold parL
  rw [s1, s2, s3]
  simp only [ne_eq, not_true_eq_false, if_false, Bool.false_eq_true, or_false]
  rw [if_neg (by omega), if_neg (by simpa using hE)]

/-! ### The lines of the text of a valid report -/
theorem wd_mem {s : ByteArray} (h : wdB s = true) {c : UInt8} (hc : c = 10 ∨ c = 32) : c ∉ toL s := fun hm => by
  unfold wdB at h
  simp only [Bool.and_eq_true] at h
  have := List.all_eq_true.1 h.1 c hm
  rcases hc with rfl | rfl <;> exact absurd this (by decide)
theorem mem_glue {c d : UInt8} : ∀ {ls : List (List UInt8)}, d ≠ c → (∀ x ∈ ls, d ∉ x) → d ∉ glue c ls
  | [], _, _ => by simp [glue]
  | [x], _, h => h x (by simp)
  | x :: y :: r, hd, h => by
    have ih := mem_glue (ls := y :: r) hd (fun z hz => h z (by simp [hz]))
    rw [glue, List.mem_append, List.mem_cons]
    rintro (h1 | h1 | h1)
    · exact h x (by simp) h1
    · exact hd h1
    · exact ih h1
def LnOk (l : List ByteArray) : Prop := l ≠ [] ∧ ∀ x ∈ l, wdB x = true
theorem lineW_of {l : List ByteArray} (h : LnOk l) : lineW (glue 32 (l.map toL)) = l := by
  unfold lineW
  rw [spl_glue (by simpa using h.1) (fun x hx => by
    obtain ⟨y, hy, rfl⟩ := List.mem_map.1 hx
    exact wd_mem (h.2 y hy) (Or.inr rfl)), List.map_map]
  have : (bsOf ∘ toL) = id := by funext x; exact mk_toL x
  rw [this, List.map_id]
theorem lines_of {M : List (List ByteArray)} (h : ∀ l ∈ M, LnOk l) : linesW (bsOf (M.flatMap lnT)) = M ∧ restN (bsOf (M.flatMap lnT)) = [] := by
  have e : M.flatMap lnT = glue 10 (M.map (fun l => glue 32 (l.map toL)) ++ [[]]) := by
    rw [glue_last, List.append_nil, List.flatMap_map]
    rfl
  have hs : spl 10 (toL (bsOf (M.flatMap lnT))) = M.map (fun l => glue 32 (l.map toL)) ++ [[]] := by
    rw [toL_bsOf, e]
    refine spl_glue (by simp) (fun x hx => ?_)
    rcases List.mem_append.1 hx with hx | hx
    · obtain ⟨l, hl, rfl⟩ := List.mem_map.1 hx
      refine mem_glue (by decide) (fun y hy => ?_)
      obtain ⟨z, hz, rfl⟩ := List.mem_map.1 hy
      exact wd_mem ((h l hl).2 z hz) (Or.inl rfl)
    · simp at hx
      subst hx
      simp
  constructor
  · unfold linesW
    rw [hs, List.dropLast_concat, List.map_map]
    conv => rhs; rw [← List.map_id M]
    exact List.map_congr_left fun l hl => lineW_of (h l hl)
  · unfold restN
    simp only [hs]
    simp
theorem cntL_ln {nm : List UInt8} {n : Int} (hn : wdB (bsOf nm) = true) (h0 : 0 ≤ n) : LnOk (cntL nm n) := ⟨by simp [cntL], fun x hx => by
  simp [cntL] at hx
  rcases hx with rfl | rfl
  · exact hn
  · exact dg_prt h0⟩
theorem fndL_ln {f : Fnd} (h : FndV f) : ∀ l ∈ fndL f, LnOk l := by
  intro l hl
  rcases List.mem_cons.1 hl with rfl | hl
  · refine ⟨by simp [fndHL], fun x hx => ?_⟩
    simp [fndHL] at hx
    rcases hx with rfl | rfl | rfl | rfl | rfl | rfl | rfl
    · decide
    · exact (wd_kind h.kind).1
    · exact wd_ident h.plc.cls
    · exact wd_ident h.plc.mth
    · exact dg_prt h.plc.i0
    · exact wd_what h.what
    · exact dg_prt (by omega)
  · obtain ⟨p, hp, rfl⟩ := List.mem_map.1 hl
    refine ⟨by simp [viaL], fun x hx => ?_⟩
    simp [viaL] at hx
    have hv := h.path p hp
    rcases hx with rfl | rfl | rfl | rfl
    · decide
    · exact wd_ident hv.cls
    · exact wd_ident hv.mth
    · exact dg_prt hv.i0
theorem rptL_ln {r : Rpt} (hv : RptV r) : ∀ l ∈ rptL r, LnOk l := by
  intro l hl
  unfold rptL at hl
  rcases List.mem_cons.1 hl with rfl | hl
  · exact cntL_ln (by decide) (by omega)
  rcases List.mem_append.1 hl with hl | hl
  · obtain ⟨f, hf, hl⟩ := List.mem_flatMap.1 hl
    exact fndL_ln (hv.opn f hf) l hl
  rcases List.mem_cons.1 hl with rfl | hl
  · exact cntL_ln (by decide) (by omega)
  rcases List.mem_append.1 hl with hl | hl
  · obtain ⟨f, hf, hl⟩ := List.mem_flatMap.1 hl
    rcases List.mem_cons.1 hl with rfl | hl
    · exact cntL_ln (by decide) (hv.note f hf).1
    · exact fndL_ln (hv.hdn f hf) l hl
  rcases List.mem_cons.1 hl with rfl | hl
  · exact cntL_ln (by decide) (by omega)
  · obtain ⟨n, hn, rfl⟩ := List.mem_map.1 hl
    exact cntL_ln (by decide) (hv.uns n hn).1
/-- A valid report is read from its text. -/
theorem parR_back {r : Rpt} (hE : rptE r = 0) (hl : (rptT r).length ≤ 1048576) : parR (bsOf (rptT r)) = (r, 0, 0) := by
  obtain ⟨h1, h2⟩ := lines_of (rptL_ln (rptE_ok hE))
  rw [rptL_T] at h1 h2
  unfold parR
  rw [if_neg (by rw [bsOf_size]; omega), h1, h2]
  exact parL_at hE
end Go.Proofs.YtlcdnkloijehjaaGreatDoor
