/-
  Chapter 47: the text of a report, plain.
-/
import Derived.Test.YtlcdnkloijehjaaGreatDoorRepN
import Derived.Test.YtlcdnkloijehjaaGreatDoorByt
namespace Go.Proofs.YtlcdnkloijehjaaGreatDoor
open Go.RowKit
set_option linter.unusedVariables false

def dg (n : Int) : List UInt8 := Lib.itoa n
def kindW (k : Int) : List UInt8 := if k = 1 then [117, 110, 115, 101, 116] else if k = 2 then [115, 116, 97, 116, 101] else if k = 3 then [116, 97, 105, 110, 116] else if k = 4 then [98, 114, 97, 110, 99, 104] else [42]
def wFnd : List UInt8 := [102, 105, 110, 100, 105, 110, 103]
def wVia : List UInt8 := [118, 105, 97]
def wOpn : List UInt8 := [111, 112, 101, 110]
def wHdn : List UInt8 := [104, 105, 100, 100, 101, 110]
def wUns : List UInt8 := [117, 110, 117, 115, 101, 100]
def wNote : List UInt8 := [110, 111, 116, 101]
def wIdx : List UInt8 := [105, 110, 100, 101, 120]
def placeT (p : Plc) : List UInt8 := toL p.cls ++ [32] ++ toL p.mth ++ [32] ++ dg p.ins
def viaT (p : Plc) : List UInt8 := wVia ++ [32] ++ placeT p ++ [10]
def fndH (f : Fnd) : List UInt8 := wFnd ++ [32] ++ kindW f.kind ++ [32] ++ placeT f.plc ++ [32] ++ toL f.what ++ [32] ++ dg f.path.length ++ [10]
def fndT (f : Fnd) : List UInt8 := fndH f ++ f.path.flatMap viaT
def noteT (n : Int) : List UInt8 := wNote ++ [32] ++ dg n ++ [10]
def hdnT (h : Hdn) : List UInt8 := noteT h.note ++ fndT h.f
def idxT (n : Int) : List UInt8 := wIdx ++ [32] ++ dg n ++ [10]
def headL (w : List UInt8) (n : Nat) : List UInt8 := w ++ [32] ++ dg n ++ [10]
def rptT (r : Rpt) : List UInt8 := headL wOpn r.opn.length ++ r.opn.flatMap fndT ++ headL wHdn r.hdn.length ++ r.hdn.flatMap hdnT ++ headL wUns r.uns.length ++ r.uns.flatMap idxT
/-- What Text returns. -/
def txtR (r : Rpt) : ByteArray × Int := if rptE r ≠ 0 then (⟨#[]⟩, rptE r) else (bsOf (rptT r), 0)

/-! ### What a valid report holds -/
structure PlcV (p : Plc) : Prop where
  cls : identB p.cls = true
  mth : identB p.mth = true
  i0 : 0 ≤ p.ins
  i1 : p.ins < 1024
structure FndV (f : Fnd) : Prop where
  kind : f.kind = 1 ∨ f.kind = 2 ∨ f.kind = 3 ∨ f.kind = 4
  plc : PlcV f.plc
  path : ∀ p ∈ f.path, PlcV p
  what : whatB f.kind f.what = true
  len : f.path.length ≤ 4097
structure RptV (r : Rpt) : Prop where
  n0 : r.opn.length ≤ 1000
  n1 : r.hdn.length ≤ 1000
  n2 : r.uns.length ≤ 200
  opn : ∀ f ∈ r.opn, FndV f
  hdn : ∀ h ∈ r.hdn, FndV h.f
  note : ∀ h ∈ r.hdn, 0 ≤ h.note ∧ h.note < 200
  uns : ∀ n ∈ r.uns, 0 ≤ n ∧ n < 200
theorem thenI_0 {a b : Int} (h : thenI a b = 0) : a = 0 ∧ b = 0 := thenI_zero.1 h
theorem identB_size {s : ByteArray} (h : identB s = true) : 1 ≤ s.size ∧ s.size ≤ 32 := by
  unfold identB at h
  simp only [Bool.and_eq_true, decide_eq_true_eq] at h
  exact ⟨h.1.1.1.1, h.1.1.1.2⟩
theorem plcE_ok {p : Plc} (h : plcE p = 0) : PlcV p := by
  unfold plcE at h
  by_cases h1 : (identB p.cls && identB p.mth) = true
  · rw [h1, if_neg (by decide)] at h
    simp only [Bool.and_eq_true] at h1
    by_cases h2 : p.ins < 0 ∨ 1024 ≤ p.ins
    · rw [if_pos h2] at h; omega
    · exact ⟨h1.1, h1.2, by omega, by omega⟩
  · rw [show (identB p.cls && identB p.mth) = false by simpa using h1, if_pos (by decide)] at h
    omega
theorem pathE_ok : ∀ {l : List Plc}, pathE l = 0 → ∀ p ∈ l, PlcV p
  | [], _, p, hp => by simp at hp
  | x :: l, h, p, hp => by
    obtain ⟨h1, h2⟩ := thenI_0 h
    rcases List.mem_cons.1 hp with rfl | hp
    · exact plcE_ok h1
    · exact pathE_ok h2 p hp
theorem fndE_ok {f : Fnd} (h : fndE f = 0) : FndV f := by
  unfold fndE at h
  by_cases h1 : f.kind < 1 ∨ 4 < f.kind
  · rw [if_pos h1] at h; omega
  rw [if_neg h1] at h
  obtain ⟨h2, h3⟩ := thenI_0 h
  obtain ⟨h4, h5⟩ := thenI_0 h3
  by_cases h6 : whatB f.kind f.what = true
  · rw [if_pos h6] at h5
    by_cases h7 : 4097 < f.path.length
    · rw [if_pos h7] at h5; omega
    · exact ⟨by omega, plcE_ok h2, pathE_ok h4, h6, by omega⟩
  · rw [if_neg h6] at h5; omega
theorem fndsE_ok : ∀ {l : List Fnd}, fndsE l = 0 → ∀ f ∈ l, FndV f
  | [], _, p, hp => by simp at hp
  | x :: l, h, p, hp => by
    obtain ⟨h1, h2⟩ := thenI_0 h
    rcases List.mem_cons.1 hp with rfl | hp
    · exact fndE_ok h1
    · exact fndsE_ok h2 p hp
theorem rptE_ok {r : Rpt} (h : rptE r = 0) : RptV r := by
  unfold rptE at h
  by_cases h1 : 1000 < r.opn.length ∨ 1000 < r.hdn.length ∨ 200 < r.uns.length
  · rw [if_pos h1] at h; omega
  rw [if_neg h1] at h
  obtain ⟨h2, h3⟩ := thenI_0 h
  obtain ⟨h4, h5⟩ := thenI_0 h3
  by_cases h6 : (risesB r.opn && risesB (hidden r)) = true
  · rw [if_pos h6] at h5
    by_cases h7 : bothB r.opn (hidden r) = true
    · rw [if_pos h7] at h5; omega
    rw [if_neg h7] at h5
    unfold noteE at h5
    by_cases h8 : noteBad r.hdn = true
    · rw [if_pos h8] at h5; omega
    rw [if_neg h8] at h5
    by_cases h9 : unsBad r.uns = true
    · rw [if_pos h9] at h5; omega
    refine ⟨by omega, by omega, by omega, fndsE_ok h2, fun x hx => fndsE_ok h4 _ (List.mem_map.2 ⟨x, hx, rfl⟩), fun x hx => ?_, fun n hn => ?_⟩
    · have := List.any_eq_false.1 (Bool.not_eq_true _ ▸ h8) x hx
      unfold offB at this
      simp at this
      omega
    · have := List.any_eq_false.1 (Bool.not_eq_true _ ▸ h9) n hn
      unfold offB at this
      simp at this
      omega
  · rw [if_neg h6] at h5; omega

/-! ### Lengths -/
theorem dg_len {n : Int} (h0 : -9223372036854775808 ≤ n) (h1 : n ≤ 9223372036854775807) : (dg n).length ≤ 21 := Lib.itoa_length_le n h0 h1
theorem kindW_len (k : Int) : (kindW k).length ≤ 6 := by
  unfold kindW
  split
  · decide
  split
  · decide
  split
  · decide
  split
  · decide
  · decide
theorem placeT_len {p : Plc} (h : PlcV p) : (placeT p).length ≤ 87 := by
  unfold placeT
  simp only [List.length_append, toL_len, List.length_cons, List.length_nil]
  have h1 := (identB_size h.cls).2
  have h2 := (identB_size h.mth).2
  have h3 := h.i0
  have h4 := h.i1
  have h5 := dg_len (n := p.ins) (by omega) (by omega)
  omega
theorem viaT_len {p : Plc} (h : PlcV p) : (viaT p).length ≤ 92 := by
  unfold viaT wVia
  simp only [List.length_append, List.length_cons, List.length_nil]
  have := placeT_len h
  omega
theorem whatB_size {k : Int} {s : ByteArray} (h : whatB k s = true) : 1 ≤ s.size ∧ s.size ≤ 32 := by
  by_cases hz : 1 ≤ s.size ∧ s.size ≤ 32
  · exact hz
  · rw [what_word (word_size hz)] at h; cases h
theorem fndH_len {f : Fnd} (h : FndV f) : (fndH f).length ≤ 170 := by
  unfold fndH wFnd
  simp only [List.length_append, toL_len, List.length_cons, List.length_nil]
  have h1 := placeT_len h.plc
  have h2 := kindW_len f.kind
  have h3 := (whatB_size h.what).2
  have h4 := h.len
  have h5 := dg_len (n := (f.path.length : Int)) (by omega) (by omega)
  omega
theorem fndT_len {f : Fnd} (h : FndV f) : (fndT f).length ≤ 400000 := by
  unfold fndT
  rw [List.length_append]
  have h1 := fndH_len h
  have h2 := flat_len viaT 92 f.path (fun p hp => viaT_len (h.path p hp))
  have h3 := h.len
  have h4 := Nat.mul_le_mul_left 92 h3
  omega
end Go.Proofs.YtlcdnkloijehjaaGreatDoor
