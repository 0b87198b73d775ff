/-
  Chapter 13: the text of a valid unit is read as this unit (plain, joined).
  Chapter 13: what ir.Parse returns, by parseU.
  Chapter 13: what a unit that was read holds: its lengths and its numbers (plain).
-/
import Derived.Test.YticpeombillmeaaGreatDoorJIp
import Derived.Test.YticpeombillmeaaGreatDoorJIk
namespace Go.Proofs.YticpeombillmeaaGreatDoor
open Go.RowKit
set_option linter.unusedVariables false
theorem parseU_text {u : Unt} (h : (chkE u).2.2 = 0) (hI : ∀ f ∈ u.funcs, ∀ x ∈ f.code, InsI x) (hl : (txtU u).length ≤ 65536) : parseU (bsOf (txtU u)) = some u := by
  have H := untV_of h
  obtain ⟨p1, h1, g1⟩ := goes_classes (r := ⟨[], [], 0⟩) (by simp) (clsW_of H)
  obtain ⟨p2, h2, g2⟩ := goes_funs (r := ⟨[] ++ u.classes, [], p1⟩) (by simp; omega) (funW_of H hI)
  obtain ⟨n, hn, hg⟩ := g1.trans g2
  have hsz : (bsOf (txtU u)).size = (txtU u).length := rfl
  have ht : toL (bsOf (txtU u)) = txtU u := rfl
  have hp : parsL (txtU u).length ⟨[], [], 0⟩ (txtU u) = some ⟨u.classes, u.funcs.map bareF, p2⟩ := by
    have e := hg ((txtU u).length - n) []
    rw [List.append_nil] at e
    have hn2 : n ≤ (txtU u).length := hn
    rw [show n + ((txtU u).length - n) = (txtU u).length by omega] at e
    refine (show parsL (txtU u).length ⟨[], [], 0⟩ (txtU u) = _ from e).trans ?_
    cases (txtU u).length - n with
    | zero => rfl
    | succ k => rfl
  have hc : complU ⟨u.classes, u.funcs.map bareF, p2⟩ = u := by
    unfold complU
    rw [List.map_map]
    have e := compl_bare h
    rw [show (complF u.classes ∘ bareF) = (fun f => complF u.classes (bareF f)) from rfl, e, mainU h]
  unfold parseU
  rw [if_neg (by rw [hsz]; omega), hsz, ht, hp]
  show (if (chkE (complU ⟨u.classes, u.funcs.map bareF, p2⟩)).2.2 = 0 then some (complU ⟨u.classes, u.funcs.map bareF, p2⟩) else none) = some u
  rw [hc, if_pos h]
end Go.Proofs.YticpeombillmeaaGreatDoor
namespace Go.Proofs.YticpeombillmeaaGreatDoor
open Go.RowKit
set_option linter.unusedVariables false
theorem RetPs.some {s : ByteArray} {u : Unt} {e : Ending} {w' : World} (h : RetPs s e w') (hu : parseU s = some u) : ∃ AC cC AF cF, e = .returned (.tuple #[.agg #[.slice AC u.classes.length cC, .slice AF u.funcs.length cF, .int .i64 u.main], .int .i64 0, .int .i64 0]) ∧ u.classes.length ≤ cC ∧ Sl Lay.cls w' AC u.classes ∧ u.funcs.length ≤ cF ∧ Sl Lay.fun w' AF u.funcs := by
  unfold parseU at hu
  unfold RetPs at h
  split at hu
  · cases hu
  rename_i h0
  rw [if_neg h0] at h
  rw [parsE_L s.size 1] at hu
  cases hp : parsE s.size 1 ⟨[], [], 0⟩ (toL s) with
  | error i => rw [hp] at hu; cases hu
  | ok r =>
    rw [hp] at hu h
    dsimp only at hu h
    split at hu
    · rename_i hc
      rw [if_pos hc] at h
      injection hu with hu
      obtain ⟨AC, cC, AF, cF, h1, h2, h3, h4, h5⟩ := h
      have e1 : u.classes = r.cs := by rw [← hu]; rfl
      have e2 : u.funcs.length = r.fs.length := by rw [← hu]; exact List.length_map ..
      have e3 : u.main = (complU r).main := by rw [← hu]
      refine ⟨AC, cC, AF, cF, by rw [e1, e2, e3]; exact h1, by rw [e1]; exact h2, by rw [e1]; exact h3, by rw [e2]; exact h4, by rw [← hu]; exact h5⟩
    · cases hu
theorem RetPs.none {s : ByteArray} {e : Ending} {w' : World} (h : RetPs s e w') (hu : parseU s = none) : ∃ i c : Int, c ≠ 0 ∧ e = .returned (.tuple #[.agg #[.slice none 0 0, .slice none 0 0, .int .i64 0], .int .i64 i, .int .i64 c]) := by
  unfold parseU at hu
  unfold RetPs at h
  split at hu
  · rename_i h0
    rw [if_pos h0] at h
    exact ⟨0, 3, by decide, h⟩
  rename_i h0
  rw [if_neg h0] at h
  rw [parsE_L s.size 1] at hu
  cases hp : parsE s.size 1 ⟨[], [], 0⟩ (toL s) with
  | error i => rw [hp] at h; exact ⟨i, 2, by decide, h⟩
  | ok r =>
    rw [hp] at hu h
    dsimp only at hu h
    split at hu
    · cases hu
    · rename_i hc
      rw [if_neg hc] at h
      exact ⟨0, _, hc, h⟩
end Go.Proofs.YticpeombillmeaaGreatDoor
namespace Go.Proofs.YticpeombillmeaaGreatDoor
open Go.RowKit
set_option linter.unusedVariables false

theorem i64_zero : I64 0 := ⟨by decide, by decide⟩
theorem setN_I {x : Ins} {c : UInt8} {n : Int} (hx : InsI x) (hn : I64 n) : InsI (setN x c n) := by
  obtain ⟨h1, h2, h3, h4, h5, h6, h7⟩ := hx
  unfold setN
  split
  · exact ⟨hn, h2, h3, h4, h5, h6, h7⟩
  split
  · exact ⟨h1, hn, h3, h4, h5, h6, h7⟩
  split
  · exact ⟨h1, h2, hn, h4, h5, h6, h7⟩
  split
  · exact ⟨h1, h2, h3, hn, h5, h6, h7⟩
  split
  · exact ⟨h1, h2, h3, h4, hn, h6, h7⟩
  · exact ⟨h1, h2, h3, h4, h5, h6, h7⟩
theorem operOf_lt {w : ByteArray} {k : Nat} (h : operOf w = some k) : k < 100 := by
  unfold operOf at h
  first
  | (have := List.findIdx?_eq_some_iff_getElem.1 h; obtain ⟨h1, _⟩ := this; have h2 : opersB.length = 5 := rfl; omega)
  | (have := List.idxOf?_eq_some_iff.1 h; obtain ⟨h1, _⟩ := this; have h2 : opersB.length = 5 := rfl; omega)
theorem setF_I {x y : Ins} {c : UInt8} {w : ByteArray} (hx : InsI x) (h : setF x c w = some y) : InsI y := by
  have hx2 := hx
  obtain ⟨h1, h2, h3, h4, h5, h6, h7⟩ := hx2
  unfold setF at h
  split at h
  · injection h with h; subst h; exact ⟨h1, h2, h3, h4, h5, h6, h7⟩
  split at h
  · injection h with h; subst h; exact ⟨h1, h2, h3, h4, h5, h6, h7⟩
  split at h
  · obtain ⟨k, hk, rfl⟩ := Option.map_eq_some_iff.1 h
    have := operOf_lt hk
    exact ⟨h1, h2, h3, ⟨by simp only; omega, by simp only; omega⟩, h5, h6, h7⟩
  · obtain ⟨n, hn, rfl⟩ := Option.map_eq_some_iff.1 h
    exact setN_I hx (numI_iff.1 hn).1
theorem setL_I : ∀ {f : List UInt8} {x y : Ins} {ws : List ByteArray}, InsI x → setL x f ws = some y → InsI y
  | [], x, y, ws, hx, h => by
    unfold setL at h
    injection h with h; subst h; exact hx
  | c :: f, x, y, [], hx, h => by
    unfold setL at h
    cases h
  | c :: f, x, y, w :: r, hx, h => by
    unfold setL at h
    split at h
    · rename_i z hz; exact setL_I (setF_I hx hz) h
    · cases h
theorem numsL_I : ∀ {ws : List ByteArray} {l : List Int}, numsL ws = some l → ∀ v ∈ l, I64 v
  | [], l, h => by
    unfold numsL at h
    injection h with h; subst h; simp
  | w :: r, l, h => by
    unfold numsL at h
    split at h
    · cases h
    rename_i n hn
    split at h
    · cases h
    rename_i m hm
    injection h with h; subst h
    intro v hv
    rcases List.mem_cons.1 hv with rfl | hv
    · exact (numI_iff.1 hn).1
    · exact numsL_I hm v hv
theorem insP_I {ws : List ByteArray} {x : Ins} (h : insP ws = some x) : InsI x := by
  unfold insP at h
  split at h
  · split at h
    · cases h
    rename_i hn hh
    split at h
    · cases h
    split at h
    · cases h
    split at h
    · cases h
    rename_i y hy
    split at h
    · cases h
    rename_i l hl
    injection h with h; subst h
    obtain ⟨h1, h2, h3, h4, h5, h6, h7⟩ := setL_I (x := { zIns with op := _, hnd := hn }) ⟨i64_zero, i64_zero, i64_zero, i64_zero, i64_zero, (numI_iff.1 hh).1, fun v hv => by cases hv⟩ hy
    exact ⟨h1, h2, h3, h4, h5, h6, fun v hv => numsL_I hl v hv⟩
  · cases h
def InvJ (r : RdI) : Prop := ∀ f ∈ r.fs, ∀ x ∈ f.code, InsI x
theorem InvJ.line {r r' : RdI} {ws : List ByteArray} (hI : InvJ r) (h : lineP r ws = some r') : InvJ r' := by
  unfold lineP at h
  split at h
  · split at h
    · injection h with h; rw [← h]; exact hI
    · cases h
  split at h
  · split at h
    · injection h with h; rw [← h]; exact hI
    · cases h
  split at h
  · split at h
    · injection h with h; rw [← h]; exact hI
    · cases h
  split at h
  · split at h
    · injection h with h; rw [← h]
      intro f hf
      rcases List.mem_append.1 hf with hf | hf
      · exact hI f hf
      · obtain rfl := List.mem_singleton.1 hf
        intro x hx; cases hx
    · cases h
  split at h
  · split at h
    · injection h with h; rw [← h]
      intro f hf
      rcases modLast_mem hf with hf | ⟨y, hy, rfl⟩
      · exact hI f hf
      · exact hI y hy
    · cases h
  split at h
  · cases h
  rename_i x hx
  split at h
  · injection h with h; rw [← h]
    intro f hf
    rcases modLast_mem hf with hf | ⟨y, hy, rfl⟩
    · exact hI f hf
    · intro z hz
      rcases List.mem_append.1 hz with hz | hz
      · exact hI y hy z hz
      · obtain rfl := List.mem_singleton.1 hz
        exact insP_I hx
  · cases h
theorem parsL_iv {n : Nat} : ∀ {k : Nat} {r r' : RdI} {l : List UInt8}, RdOk r → InvI n r → InvJ r → l.length ≤ n → parsL k r l = some r' → InvI n r' ∧ InvJ r'
  | 0, r, r', l, hr, hi, hj, hl, h => by
    unfold parsL at h
    split at h
    · injection h with h; subst h; exact ⟨hi, hj⟩
    · cases h
  | k + 1, r, r', l, hr, hi, hj, hl, h => by
    unfold parsL at h
    split at h
    · injection h with h; subst h; exact ⟨hi, hj⟩
    · split at h
      · cases h
      · rename_i r2 l2 hs
        obtain ⟨ws, h1, h2, h3, rfl⟩ := stepI_back hs
        obtain ⟨h4, h5⟩ := lineP_txt hr h2 h3
        rw [List.length_append] at hl
        refine parsL_iv h4 (hi.line (fun w hw => ?_) ?_ h3) (hj.line h3) (by omega) h
        · have := lnT_mem hw
          rw [toL_size] at this
          omega
        · have := lnT_cnt ws
          omega
theorem complF_code (cs : List Cls) (f : Fun) : (complF cs f).code = f.code := by
  unfold complF
  split <;> rfl
/-- A unit that was read: what its check leans on, and the size of its numbers. -/
theorem parseU_held {s : ByteArray} {u : Unt} (h : parseU s = some u) : (∀ f ∈ u.funcs, ∀ x ∈ f.code, InsI x) ∧ ∀ {w : World} {A0 A1 : Option Addr} {c0 : Nat}, u.classes.length ≤ c0 → Sl Lay.cls w A0 u.classes → Sl Lay.fun w A1 u.funcs → FormX w → KwX w → UnH w u A0 A1 c0 := by
  unfold parseU at h
  split at h
  · cases h
  rename_i h0
  split at h
  · cases h
  rename_i r hr
  split at h
  · rename_i hc
    injection h with h; subst h
    have ht := parsL_txt rdOk_zero hr
    rw [show txtR ⟨[], [], 0⟩ = [] from rfl, List.nil_append] at ht
    have hl : (toL s).length ≤ 65536 := by rw [toL_size]; omega
    obtain ⟨hi, hj⟩ := parsL_iv (n := 65536) rdOk_zero (InvI.zero _) (fun f hf => by cases hf) hl hr
    have hb := rdB_of r
    rw [ht] at hb
    have hb2 : RdB 65536 r := ⟨Nat.le_trans hb.cl hl, Nat.le_trans hb.fl hl, fun c hc => (hb.cs c hc).mono hl, fun f hf => (hb.fs f hf).mono hl⟩
    refine ⟨fun f hf x hx => ?_, fun hcc hs hf hfx hkw => unH_of hb2 hi hcc hs hf hfx hkw⟩
    obtain ⟨g, hg, rfl⟩ := List.mem_map.1 (show f ∈ r.fs.map (complF r.cs) from hf)
    rw [complF_code] at hx
    exact hj g hg x hx
  · cases h
end Go.Proofs.YticpeombillmeaaGreatDoor
