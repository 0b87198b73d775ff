/-
  Joined (wip/merge.py): RsA, RsC.
-/
import Derived.Test.YtlcdnkloijehjaaGreatDoorMr7
import Derived.Test.YtlcdnkloijehjaaGreatDoorNest

namespace Go.Proofs.YtlcdnkloijehjaaGreatDoor
open Go.RowKit
set_option linter.unusedVariables false

theorem toL_at {D : ByteArray} {m : Nat} (h : m < D.size) : (toL D).take (m + 1) = (toL D).take m ++ [D[m]] := by
  rw [List.take_succ_eq_append_getElem (by rw [toL_len]; exact h)]
  rfl
theorem spl_snoc (c x : UInt8) : ∀ {l : List UInt8} {out : List (List UInt8)} {r : List UInt8}, spl c l = out ++ [r] → spl c (l ++ [x]) = out ++ (if x = c then [r, []] else [r ++ [x]])
  | [], out, r, h => by
    have h1 : ([[]] : List (List UInt8)) = out ++ [r] := h
    cases out with
    | nil =>
      obtain rfl : [] = r := by simpa using h1
      simp only [List.nil_append]
      show spl c [x] = _
      unfold spl
      split <;> rfl
    | cons a b => simp at h1
  | y :: l, out, r, h => by
    rw [List.cons_append]
    unfold spl at h ⊢
    by_cases hy : y = c
    · rw [if_pos hy] at h ⊢
      cases out with
      | nil =>
        rw [List.nil_append] at h
        exact absurd (List.cons.inj h).2 (spl_ne _ _)
      | cons a b =>
        rw [List.cons_append] at h ⊢
        obtain ⟨h1, h2⟩ := List.cons.inj h
        rw [spl_snoc c x h2, h1]
    · rw [if_neg hy] at h ⊢
      cases hs : spl c l with
      | nil => exact absurd hs (spl_ne _ _)
      | cons z t =>
        rw [hs] at h
        simp only at h
        cases out with
        | nil =>
          rw [List.nil_append] at h
          obtain ⟨h1, h2⟩ := List.cons.inj h
          subst h2
          rw [spl_snoc c x (out := []) (r := z) (by rw [hs]; rfl), ← h1]
          by_cases hx : x = c <;> simp [hx]
        | cons a b =>
          rw [List.cons_append] at h
          obtain ⟨h1, h2⟩ := List.cons.inj h
          subst h2
          rw [spl_snoc c x (out := z :: b) (r := r) (by rw [hs]; rfl), ← h1]
          rfl
theorem spl_sep {c : UInt8} {l : List UInt8} {out : List (List UInt8)} {r : List UInt8} (h : spl c l = out ++ [r]) : spl c (l ++ [c]) = (out ++ [r]) ++ [[]] := by
  rw [spl_snoc c c h, if_pos rfl]; simp
theorem spl_non {c x : UInt8} (hx : ¬ x = c) {l : List UInt8} {out : List (List UInt8)} {r : List UInt8} (h : spl c l = out ++ [r]) : spl c (l ++ [x]) = out ++ [r ++ [x]] := by
  rw [spl_snoc c x h, if_neg hx]
theorem toL_extract (s : ByteArray) (a b : Nat) : toL (s.extract a b) = ((toL s).take b).drop a := by
  show (s.extract a b).data.toList = _
  rw [ByteArray.data_extract, Array.toList_extract]
  simp [List.extract, List.drop_take]
  rfl
theorem extract_snoc {s : ByteArray} {a b : Nat} (h : a ≤ b) (hb : b < s.size) : toL (s.extract a (b + 1)) = toL (s.extract a b) ++ [s[b]] := by
  rw [toL_extract, toL_extract, toL_at hb, List.drop_append_of_le_length]
  rw [List.length_take, toL_len]; omega
theorem extract_none (s : ByteArray) (a : Nat) : toL (s.extract a a) = [] := by
  rw [toL_extract]; apply List.drop_eq_nil_of_le; rw [List.length_take]; omega

/-- The lines and words before byte i; the word that is being read begins at 'a'. -/
structure SpI (s : ByteArray) (i a : Nat) (out : List (List ByteArray)) (l : List ByteArray) : Prop where
  le : a ≤ i
  hi : i ≤ s.size
  ex : ∃ ls cur, spl 10 ((toL s).take i) = ls ++ [cur] ∧ out = ls.map lineW ∧ spl 32 cur = l.map toL ++ [toL (s.extract a i)]
theorem SpI.start (s : ByteArray) : SpI s 0 0 [] [] := ⟨Nat.le_refl _, Nat.zero_le _, [], [], rfl, rfl, by rw [extract_none]; rfl⟩
theorem SpI.skip {s : ByteArray} {i a : Nat} {out : List (List ByteArray)} {l : List ByteArray} (h : SpI s i a out l) (hi : i < s.size) (h1 : ¬ s[i] = 32) (h2 : ¬ s[i] = 10) : SpI s (i + 1) a out l := by
  obtain ⟨hl, _, ls, cur, e1, e2, e3⟩ := h
  refine ⟨by omega, by omega, ls, cur ++ [s[i]], ?_, e2, ?_⟩
  · rw [toL_at hi, spl_non h2 e1]
  · rw [spl_non h1 e3, extract_snoc hl hi]
theorem SpI.word {s : ByteArray} {i a : Nat} {out : List (List ByteArray)} {l : List ByteArray} (h : SpI s i a out l) (hi : i < s.size) (h1 : s[i] = 32) : SpI s (i + 1) (i + 1) out (l ++ [s.extract a i]) := by
  obtain ⟨hl, _, ls, cur, e1, e2, e3⟩ := h
  refine ⟨by omega, by omega, ls, cur ++ [32], ?_, e2, ?_⟩
  · rw [toL_at hi, h1, spl_non (by decide) e1]
  · rw [spl_sep e3, extract_none, List.map_append, List.map_singleton]
theorem SpI.line {s : ByteArray} {i a : Nat} {out : List (List ByteArray)} {l : List ByteArray} (h : SpI s i a out l) (hi : i < s.size) (h1 : s[i] = 10) : SpI s (i + 1) (i + 1) (out ++ [l ++ [s.extract a i]]) [] := by
  obtain ⟨hl, _, ls, cur, e1, e2, e3⟩ := h
  refine ⟨by omega, by omega, ls ++ [cur], [], ?_, ?_, ?_⟩
  · rw [toL_at hi, h1, spl_sep e1]
  · rw [List.map_append, List.map_singleton, e2]
    congr 2
    unfold lineW
    rw [e3, List.map_append, List.map_singleton, List.map_map]
    have : (bsOf ∘ toL) = id := by funext x; exact mk_toL x
    rw [this, List.map_id, show bsOf (toL (s.extract a i)) = s.extract a i from mk_toL _]
  · rw [extract_none]; rfl
theorem SpI.fin {s : ByteArray} {a : Nat} {out : List (List ByteArray)} {l : List ByteArray} (h : SpI s s.size a out l) : out = linesW s ∧ ((a < s.size ∨ l ≠ []) ↔ restN s ≠ []) := by
  obtain ⟨hl, _, ls, cur, e1, e2, e3⟩ := h
  rw [List.take_of_length_le (by rw [toL_len]; exact Nat.le_refl _)] at e1
  have hc : restN s = cur := by
    unfold restN
    simp only [e1]
    simp
  constructor
  · unfold linesW
    rw [e1, List.dropLast_concat, e2]
  · rw [hc]
    have hz : (toL (s.extract a s.size)).length = s.size - a := by
      rw [toL_extract, List.length_drop, List.length_take, toL_len]; omega
    constructor
    · intro h0 hcur
      rw [hcur] at e3
      cases l with
      | nil =>
        rw [List.map_nil, List.nil_append] at e3
        have e4 : [] = toL (s.extract a s.size) := by
          injection e3
        rw [← e4] at hz
        rcases h0 with h0 | h0
        · simp at hz; omega
        · exact h0 rfl
      | cons x r =>
        have := congrArg List.length e3
        simp [spl] at this
    · intro h0
      refine Classical.byContradiction fun hn => h0 ?_
      have h1 : ¬ a < s.size := fun h => hn (Or.inl h)
      have h2 : l = [] := Classical.byContradiction fun h => hn (Or.inr h)
      rw [h2, List.map_nil, List.nil_append] at e3
      have h3 : toL (s.extract a s.size) = [] := List.eq_nil_of_length_eq_zero (by omega)
      have h4 := glue_spl 32 cur
      rw [e3, h3] at h4
      exact h4.symm
theorem SpI.len {s : ByteArray} {i a : Nat} {out : List (List ByteArray)} {l : List ByteArray} (h : SpI s i a out l) : out.length ≤ i ∧ l.length ≤ i := by
  obtain ⟨hl, hi, ls, cur, e1, e2, e3⟩ := h
  have h1 := spl_len 10 ((toL s).take i)
  have h2 := spl_piece (c := 10) (l := (toL s).take i) (x := cur) (by rw [e1]; simp)
  have h3 := spl_len 32 cur
  rw [e1] at h1
  rw [e3] at h3
  rw [List.length_take, toL_len] at h1 h2
  rw [e2]
  simp at h1 h3 ⊢
  omega
end Go.Proofs.YtlcdnkloijehjaaGreatDoor

namespace Go.Proofs.YtlcdnkloijehjaaGreatDoor
open Go.RowKit
set_option linter.unusedVariables false

structure RLn where
  A : Option Addr
  n : Nat
  c : Nat
def cellsRLn (x : RLn) : List Value := [.slice x.A x.n x.c]
theorem cellsRLn_ok : CellsOk cellsRLn 1 := ⟨fun _ => rfl, fun _ u hu => by simp [cellsRLn] at hu; subst hu; rfl⟩
theorem linesTy : ElemTy Tryz.prog 83 38 1 24 (.slice none 0 0) := ⟨Tryz.underlying83, by kernel_rfl, rfl, by omega⟩
structure RowL (B0 B : Nat) (w : World) (r : RLn) (x : List ByteArray) : Prop where
  own : Own cellsStr 1 B0 9 w (.slice r.A r.n r.c) x
  lt : ∀ b, (Value.slice r.A r.n r.c).ownBlock = some b → b < B
structure RowsL (B0 B : Nat) (w : World) (ro : List RLn) (out : List (List ByteArray)) : Prop where
  len : ro.length = out.length
  each : ∀ (i : Nat) r x, ro[i]? = some r → out[i]? = some x → RowL B0 B w r x
theorem RowsL.nil {B0 B : Nat} {w : World} : RowsL B0 B w [] [] := ⟨rfl, fun i r x h => by simp at h⟩
theorem RowsL.map {B0 B B' : Nat} {w w' : World} {ro : List RLn} {out : List (List ByteArray)} (h : RowsL B0 B w ro out) (f : ∀ r x, RowL B0 B w r x → RowL B0 B' w' r x) : RowsL B0 B' w' ro out := ⟨h.len, fun i r x h1 h2 => f r x (h.each i r x h1 h2)⟩
theorem RowsL.mono {B0 B : Nat} {w w' : World} {ro : List RLn} {out : List (List ByteArray)} (h : RowsL B0 B w ro out) (hb : Below w.heap.size w w') : RowsL B0 B w' ro out := h.map fun r x k => ⟨k.own.mono hb, k.lt⟩
theorem RowsL.snoc {B0 B : Nat} {w : World} {ro : List RLn} {out : List (List ByteArray)} {r : RLn} {x : List ByteArray} (h : RowsL B0 B w ro out) (hr : RowL B0 B w r x) : RowsL B0 B w (ro ++ [r]) (out ++ [x]) := by
  refine ⟨by rw [List.length_append, List.length_append, h.len]; rfl, fun i a b h1 h2 => ?_⟩
  have hl := h.len
  rcases Nat.lt_trichotomy i ro.length with hi | hi | hi
  · rw [List.getElem?_append_left hi] at h1
    rw [List.getElem?_append_left (by omega)] at h2
    exact h.each i a b h1 h2
  · subst hi
    rw [List.getElem?_append_right (Nat.le_refl _), Nat.sub_self] at h1
    rw [hl, List.getElem?_append_right (Nat.le_refl _), Nat.sub_self] at h2
    simp at h1 h2
    subst h1 h2
    exact hr
  · rw [List.getElem?_eq_none (by simp; omega)] at h1
    cases h1
/-- A row of words grows; the finished rows stay. -/
theorem RowsL.push {B0 B : Nat} {w w' : World} {ro : List RLn} {out : List (List ByteArray)} {v : Value} {l : List ByteArray} (h : RowsL B0 B w ro out) (ho : Own cellsStr 1 B 9 w v l) (hg : w.grownBy w' v.ownBlock) : RowsL B0 B w' ro out :=
  h.map fun r x k => ⟨k.own.kept hg (fun b hb he => by
    have h1 := k.lt b he
    have h2 := (World.ownsRow.lt ho b hb).1
    omega), k.lt⟩
/-- The row of rows grows. -/
theorem RowsL.outer {B0 B : Nat} {w w' : World} {ro ro' : List RLn} {out : List (List ByteArray)} {v : Value} (h : RowsL B0 B w ro out) (ho : Own cellsRLn 1 B0 38 w v ro') (hg : w.grownBy w' v.ownBlock) : RowsL B0 B w' ro out :=
  h.map fun r x k => ⟨k.own.kept_other ho (by decide) hg, k.lt⟩
theorem RowsL.sl {B0 B : Nat} {w : World} {ro : List RLn} {out : List (List ByteArray)} {v : Value} (h : RowsL B0 B w ro out) (ho : Own cellsRLn 1 B0 38 w v ro) : ∃ A c, v = .slice A out.length c ∧ out.length ≤ c ∧ Sl Lay.str.slice w A out :=
  ho.slR (M := Lay.str.slice) cellsRLn_ok rfl h.len (fun i x y h1 h2 => by
    obtain ⟨A, c, e, hc, hs⟩ := (h.each i x y h1 h2).own.sl (L := Lay.str) rfl (fun _ => rfl)
    exact ⟨A, c, by unfold cellsRLn; rw [e], hc, hs⟩)
def RetSp (s : ByteArray) (w' : World) (e : Ending) : Prop := ∃ A c, e = .returned (.tuple #[.slice A (linesW s).length c, .bool (decide (restN s ≠ []))]) ∧ (linesW s).length ≤ c ∧ Sl Lay.str.slice w' A (linesW s)
theorem own_isSl {α : Type} {cells : α → List Value} {size base : Nat} {e : TypeId} {w : World} {v : Value} {l : List α} (h : Own cells size base e w v l) : ∃ A n c, v = .slice A n c := by
  rcases h.2 with ⟨rfl, _⟩ | ⟨g, cap, cur, rfl, _⟩
  · exact ⟨_, _, _, rfl⟩
  · exact ⟨_, _, _, rfl⟩
theorem own_base {α : Type} {cells : α → List Value} {size base base' : Nat} {e : TypeId} {w : World} {v : Value} {l : List α} (h : Own cells size base e w v l) (hb : base' ≤ base) : Own cells size base' e w v l := by
  refine ⟨h.1, ?_⟩
  rcases h.2 with h1 | ⟨g, cap, cur, h1, h2, h3⟩
  · exact Or.inl h1
  · exact Or.inr ⟨g, cap, cur, h1, Nat.le_trans hb h2, h3⟩
theorem u8_cases {c : UInt8} : (c = 32 → ((c.toNat : Int) != 32) = false ∧ ((c.toNat : Int) == 10) = false) ∧ (c = 10 → ((c.toNat : Int) != 32) = true ∧ ((c.toNat : Int) != 10) = false ∧ ((c.toNat : Int) == 10) = true) ∧ (¬ c = 32 → ¬ c = 10 → ((c.toNat : Int) != 32) = true ∧ ((c.toNat : Int) != 10) = true) := by
  refine ⟨fun h => by subst h; decide, fun h => by subst h; decide, fun h1 h2 => ?_⟩
  have e1 : ¬ c.toNat = 32 := fun e => h1 (UInt8.toNat_inj.1 e)
  have e2 : ¬ c.toNat = 10 := fun e => h2 (UInt8.toNat_inj.1 e)
  rw [bne_iff_ne, bne_iff_ne]
  omega
set_option maxHeartbeats 4000000 in
set_option maxRecDepth 100000 in
theorem refSplit_any (s : ByteArray) (w : World) (hs : s.size ≤ 1500000) :
    Calls Tryz.prog 51 #[.string s] w fun e w' => RetSp s w' e ∧ Below w.heap.size w w' := by
  go_enter Tryz.func51, Tryz.ntmps51
  go_wp2_with fail
  go_loopw [4, 5, 6, 7] (fun v4 v5 v6 v7 wr => ∃ (i a B : Nat) (ro : List RLn) (out : List (List ByteArray)) (l : List ByteArray), v7 = .int .i64 i ∧ v6 = .int .i64 a ∧ Hid (SpI s i a out l) ∧ Own cellsRLn 1 w.heap.size 38 wr v4 ro ∧ Own cellsStr 1 B 9 wr v5 l ∧ RowsL w.heap.size B wr ro out ∧ w.heap.size ≤ B ∧ B ≤ wr.heap.size ∧ Below w.heap.size w wr) (fun _ _ _ v7 _ => s.size - (intOf v7).toNat)
  case atStart => exact ⟨0, 0, w.heap.size, [], [], [], rfl, rfl, Lib.hid (SpI.start s), Own.nil, Own.nil, RowsL.nil, Nat.le_refl _, Nat.le_refl _, Below.refl _ _⟩
  case round =>
    obtain ⟨i, a, B, ro, out, l, rfl, rfl, HI, hoO, hoL, hR, hwB, hBw, hbw⟩ := hrel
    have hai := HI.out.le
    have his := HI.out.hi
    have hln := HI.out.len
    have hro := hR.len
    obtain ⟨AO, nO, cO, rfl⟩ := own_isSl hoO
    obtain ⟨AL, nL, cL, rfl⟩ := own_isSl hoL
    by_cases hlt : i < s.size
    · by_cases hc1 : s[i] = 32
      · have HN := Lib.hid (HI.out.word hlt hc1)
        obtain ⟨t1, t2⟩ := u8_cases.1 hc1
        clear hc1
        have hR1 := hR.mono (show Below wr.heap.size wr (wr.alloc (.cells #[.string (s.extract a i)] 9)) by exact (by repeat (first | assumption | exact Below.refl _ _ | apply bw_alloc | apply bw_drew | apply bw_drewN | apply bw_later | apply bw_step)))
        have hoO1 := hoO.mono (show Below wr.heap.size wr (wr.alloc (.cells #[.string (s.extract a i)] 9)) by exact (by repeat (first | assumption | exact Below.refl _ _ | apply bw_alloc | apply bw_drew | apply bw_drewN | apply bw_later | apply bw_step)))
        have hoL1 := hoL.mono (show Below wr.heap.size wr (wr.alloc (.cells #[.string (s.extract a i)] 9)) by exact (by repeat (first | assumption | exact Below.refl _ _ | apply bw_alloc | apply bw_drew | apply bw_drewN | apply bw_later | apply bw_step)))
        have hB1 : B ≤ (wr.alloc (.cells #[.string (s.extract a i)] 9)).heap.size := by simp; omega
        go_wp2_with (at_builtin; refine wpList_pushG strsTy cellsStr_ok rfl (.tmp 24) (.tmp 29) rfl B _ l rfl hoL1 (s.extract a i) _ _ rfl (cells_one_new _ _ _) (by unfold maxLen; omega) (by omega) hB1 ?_; intro v1 w1 hown1 hb1 hg1)
        obtain ⟨A1, n1, q1, rfl⟩ := own_isSl hown1
        have hR2 := hR1.push hoL1 hg1
        have hoO2 := hoO1.kept_other hoL1 (by decide) hg1
        have hs1 := hg1.size
        go_roundw
        case rel => exact ⟨i + 1, i + 1, B, ro, out, _, by go_num, by go_num, HN, hoO2, hown1, hR2, hwB, by omega, (bw_alloc hbw).trans (hb1.mono hwB)⟩
        case measure => simp [intOf]; omega
      by_cases hc2 : s[i] = 10
      · have HN := Lib.hid (HI.out.line hlt hc2)
        obtain ⟨t1, t2, t3⟩ := u8_cases.2.1 hc2
        clear hc1 hc2
        have hR1 := hR.mono (show Below wr.heap.size wr (wr.alloc (.cells #[.string (s.extract a i)] 9)) by exact (by repeat (first | assumption | exact Below.refl _ _ | apply bw_alloc | apply bw_drew | apply bw_drewN | apply bw_later | apply bw_step)))
        have hoO1 := hoO.mono (show Below wr.heap.size wr (wr.alloc (.cells #[.string (s.extract a i)] 9)) by exact (by repeat (first | assumption | exact Below.refl _ _ | apply bw_alloc | apply bw_drew | apply bw_drewN | apply bw_later | apply bw_step)))
        have hoL1 := hoL.mono (show Below wr.heap.size wr (wr.alloc (.cells #[.string (s.extract a i)] 9)) by exact (by repeat (first | assumption | exact Below.refl _ _ | apply bw_alloc | apply bw_drew | apply bw_drewN | apply bw_later | apply bw_step)))
        have hB1 : B ≤ (wr.alloc (.cells #[.string (s.extract a i)] 9)).heap.size := by simp; omega
        go_upto_region 11 with (at_builtin; refine wpList_pushG strsTy cellsStr_ok rfl (.tmp 24) (.tmp 29) rfl B _ l rfl hoL1 (s.extract a i) _ _ rfl (cells_one_new _ _ _) (by unfold maxLen; omega) (by omega) hB1 ?_; intro v1 w1 hown1 hb1 hg1; obtain ⟨A1, n1, q1, rfl⟩ := own_isSl hown1)
        have hR2 := hR1.push hoL1 hg1
        have hoO2 := hoO1.kept_other hoL1 (by decide) hg1
        have hs1 := hg1.size
        have hbw1 : Below w.heap.size w w1 := (bw_alloc hbw).trans (hb1.mono hwB)
        have hnew : RowL w.heap.size w1.heap.size w1 ⟨A1, n1, q1⟩ (l ++ [s.extract a i]) := ⟨own_base hown1 hwB, fun b hb => (World.ownsRow.lt hown1 b hb).2⟩
        have hR3 := (hR2.map (w' := w1) (B' := w1.heap.size) fun r x k => ⟨k.own, fun b hb => by have := k.lt b hb; omega⟩).snoc hnew
        have hR4 := hR3.mono (show Below w1.heap.size w1 (w1.alloc (.cells #[.slice A1 n1 q1] 38)) by exact (by repeat (first | assumption | exact Below.refl _ _ | apply bw_alloc | apply bw_drew | apply bw_drewN | apply bw_later | apply bw_step)))
        have hoO4 := hoO2.mono (show Below w1.heap.size w1 (w1.alloc (.cells #[.slice A1 n1 q1] 38)) by exact (by repeat (first | assumption | exact Below.refl _ _ | apply bw_alloc | apply bw_drew | apply bw_drewN | apply bw_later | apply bw_step)))
        have hB4 : w.heap.size ≤ (w1.alloc (.cells #[.slice A1 n1 q1] 38)).heap.size := by simp; omega
        have hxc : ∀ j u, (cellsRLn ⟨A1, n1, q1⟩)[j]? = some u → (w1.alloc (.cells #[.slice A1 n1 q1] 38)).cell? ⟨w1.heap.size, j, none⟩ = some u := cells_one_new _ _ _
        clear hR1 hoO1 hoL1 hB1 hb1 hg1 hR2 hoO2 hown1 hnew hR3
        go_wp2_with (at_builtin; refine wpList_pushG linesTy cellsRLn_ok rfl (.tmp 37) (.tmp 39) rfl w.heap.size _ ro rfl hoO4 ⟨A1, n1, q1⟩ _ _ rfl hxc (by unfold maxLen; omega) (by omega) hB4 ?_; intro v2 w2 hown2 hb2 hg2)
        obtain ⟨A2, n2, q2, rfl⟩ := own_isSl hown2
        have hR5 := hR4.outer hoO4 hg2
        have hs2 := hg2.size
        have hs3 : w1.heap.size ≤ w2.heap.size := by simp at hs2; omega
        go_roundw
        case rel => exact ⟨i + 1, i + 1, w1.heap.size, _, _, [], by go_num, by go_num, HN, hown2, Own.nil, hR5, hbw1.size, hs3, (bw_alloc hbw1).trans hb2⟩
        case measure => simp [intOf]; omega
      · have HN := Lib.hid (HI.out.skip hlt hc1 hc2)
        obtain ⟨t1, t2⟩ := u8_cases.2.2 hc1 hc2
        clear hc1 hc2
        go_wp2_with fail
        go_roundw
        case rel => exact ⟨i + 1, a, B, ro, out, l, by go_num, rfl, HN, hoO, hoL, hR, hwB, hBw, hbw⟩
        case measure => simp [intOf]; omega
    · obtain rfl : i = s.size := by omega
      obtain ⟨h1, h2⟩ := HI.out.fin
      have HM := Lib.hid h2
      clear h2
      obtain ⟨A, c, e, hc, hsl⟩ := hR.sl hoO
      injection e with e1 e2 e3
      subst e1 e2 e3
      have hlL : nL = l.length := by
        obtain ⟨A', c', e', _⟩ := hoL.sl (L := Lay.str) rfl (fun _ => rfl)
        injection e' with e1 e2 e3
      subst hlL
      by_cases g1 : a < s.size
      · have HT : Hid (decide (restN s ≠ []) = true) := Lib.hid (decide_eq_true (HM.out.1 (Or.inl g1)))
        have g1' : (a : Int) < (s.size : Int) := by omega
        have HX : Hid (RetSp s wr (.returned (.tuple #[.slice AO out.length cO, .bool true]))) := by
          show RetSp _ _ _
          unfold RetSp
          rw [HT.out, ← h1]
          exact ⟨AO, cO, rfl, hc, hsl⟩
        clear HI HM HT h1 hsl hR hoO hoL
        go_wp2_with fail
        go_ret2
        exact ⟨HX.out, hbw⟩
      have g1' : ¬ (a : Int) < (s.size : Int) := by omega
      by_cases g2 : 0 < l.length
      · have HT : Hid (decide (restN s ≠ []) = true) := Lib.hid (decide_eq_true (HM.out.1 (Or.inr (List.length_pos_iff.1 g2))))
        have g2' : (0 : Int) < (l.length : Int) := by omega
        have HX : Hid (RetSp s wr (.returned (.tuple #[.slice AO out.length cO, .bool true]))) := by
          show RetSp _ _ _
          unfold RetSp
          rw [HT.out, ← h1]
          exact ⟨AO, cO, rfl, hc, hsl⟩
        clear HI HM HT h1 hsl hR hoO hoL
        go_wp2_with fail
        go_ret2
        exact ⟨HX.out, hbw⟩
      · have HT : Hid (decide (restN s ≠ []) = false) := Lib.hid (decide_eq_false (fun h => by
          rcases HM.out.2 h with h | h
          · exact g1 h
          · exact g2 (List.length_pos_iff.2 h)))
        have g2' : ¬ (0 : Int) < (l.length : Int) := by omega
        have HX : Hid (RetSp s wr (.returned (.tuple #[.slice AO out.length cO, .bool false]))) := by
          show RetSp _ _ _
          unfold RetSp
          rw [HT.out, ← h1]
          exact ⟨AO, cO, rfl, hc, hsl⟩
        clear HI HM HT h1 hsl hR hoO hoL
        go_wp2_with fail
        go_ret2
        exact ⟨HX.out, hbw⟩
end Go.Proofs.YtlcdnkloijehjaaGreatDoor
