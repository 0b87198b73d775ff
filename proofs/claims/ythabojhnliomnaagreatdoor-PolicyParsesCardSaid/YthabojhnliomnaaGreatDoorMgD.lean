/-
  Joined (wip/merge.py): RfA, RfB, RfC, RfD, RfE, RfP, RfF, RfG, RfH, RfH0, RfH1, RfH2, RfH3, RfI, RfJ, RfK, RfL, RfM.
-/
import Derived.Test.YthabojhnliomnaaGreatDoorMgA
import Derived.Test.YthabojhnliomnaaGreatDoorPolI
import Derived.Test.YthabojhnliomnaaGreatDoorMgC
import Derived.Deep.RegionLaw
import Derived.Deep.RegionHeld3

namespace Go.Proofs.YthabojhnliomnaaGreatDoor
open Go.RowKit
set_option linter.unusedVariables false

theorem spl_snoc (c x : UInt8) : ∀ {l : List UInt8} {out : List (List UInt8)} {r : List UInt8}, spl c l = out ++ [r] → spl c (l ++ [x]) = out ++ (if x = c then [r, []] else [r ++ [x]])
  | [], out, r, h => by
    have h1 : ([[]] : List (List UInt8)) = out ++ [r] := h
    cases out with
    | nil =>
      obtain rfl : [] = r := by simpa using h1
      simp only [List.nil_append]
      show spl c [x] = _
      unfold spl
      split <;> rfl
    | cons a b => simp at h1
  | y :: l, out, r, h => by
    rw [List.cons_append]
    unfold spl at h ⊢
    by_cases hy : y = c
    · rw [if_pos hy] at h ⊢
      cases out with
      | nil =>
        rw [List.nil_append] at h
        exact absurd (List.cons.inj h).2 (spl_ne _ _)
      | cons a b =>
        rw [List.cons_append] at h ⊢
        obtain ⟨h1, h2⟩ := List.cons.inj h
        rw [spl_snoc c x h2, h1]
    · rw [if_neg hy] at h ⊢
      cases hs : spl c l with
      | nil => exact absurd hs (spl_ne _ _)
      | cons z t =>
        rw [hs] at h
        simp only at h
        cases out with
        | nil =>
          rw [List.nil_append] at h
          obtain ⟨h1, h2⟩ := List.cons.inj h
          subst h2
          rw [spl_snoc c x (out := []) (r := z) (by rw [hs]; rfl), ← h1]
          by_cases hx : x = c <;> simp [hx]
        | cons a b =>
          rw [List.cons_append] at h
          obtain ⟨h1, h2⟩ := List.cons.inj h
          subst h2
          rw [spl_snoc c x (out := z :: b) (r := r) (by rw [hs]; rfl), ← h1]
          rfl
theorem spl_sep {c : UInt8} {l : List UInt8} {out : List (List UInt8)} {r : List UInt8} (h : spl c l = out ++ [r]) : spl c (l ++ [c]) = (out ++ [r]) ++ [[]] := by
  rw [spl_snoc c c h, if_pos rfl]; simp
theorem spl_non {c x : UInt8} (hx : ¬ x = c) {l : List UInt8} {out : List (List UInt8)} {r : List UInt8} (h : spl c l = out ++ [r]) : spl c (l ++ [x]) = out ++ [r ++ [x]] := by
  rw [spl_snoc c x h, if_neg hx]
theorem bs_back (s : ByteArray) : bsOf (toL s) = s := by
  show (⟨s.data.toList.toArray⟩ : ByteArray) = s
  rw [Array.toArray_toList]
theorem map_bs_back (l : List ByteArray) : (l.map toL).map bsOf = l := by
  rw [List.map_map]
  conv => rhs; rw [← List.map_id l]
  exact List.map_congr_left fun x _ => bs_back x
theorem toL_extract (s : ByteArray) (a b : Nat) : toL (s.extract a b) = ((toL s).take b).drop a := by
  show (s.extract a b).data.toList = _
  rw [ByteArray.data_extract, Array.toList_extract]
  simp [List.extract, List.drop_take]
  rfl
theorem extract_snoc {s : ByteArray} {a b : Nat} (h : a ≤ b) (hb : b < s.size) : toL (s.extract a (b + 1)) = toL (s.extract a b) ++ [s[b]] := by
  rw [toL_extract, toL_extract, toL_at hb, List.drop_append_of_le_length]
  rw [List.length_take, toL_len]; omega
theorem extract_none (s : ByteArray) (a : Nat) : toL (s.extract a a) = [] := by
  rw [toL_extract]; apply List.drop_eq_nil_of_le; rw [List.length_take]; omega
/-- The words so far, and the word that is being read: at the bytes before i. -/
structure CutAt (c : UInt8) (s : ByteArray) (i : Nat) (out : List ByteArray) (r : List UInt8) : Prop where
  eq : spl c ((toL s).take i) = out.map toL ++ [r]
theorem CutAt.start (c : UInt8) (s : ByteArray) : CutAt c s 0 [] [] := ⟨rfl⟩
theorem CutAt.sep {c : UInt8} {s : ByteArray} {i : Nat} {out : List ByteArray} {r : List UInt8} (h : CutAt c s i out r) (hi : i < s.size) (hc : s[i] = c) (x : ByteArray) (hx : toL x = r) : CutAt c s (i + 1) (out ++ [x]) [] := by
  refine ⟨?_⟩
  rw [toL_at hi, hc, spl_sep h.eq, List.map_append, List.map_singleton, hx]
theorem CutAt.non {c : UInt8} {s : ByteArray} {i : Nat} {out : List ByteArray} {r : List UInt8} (h : CutAt c s i out r) (hi : i < s.size) (hc : ¬ s[i] = c) : CutAt c s (i + 1) out (r ++ [s[i]]) := by
  refine ⟨?_⟩
  rw [toL_at hi, spl_non hc h.eq]
theorem CutAt.fin {c : UInt8} {s : ByteArray} {out : List ByteArray} {r : List UInt8} (h : CutAt c s s.size out r) : spl c (toL s) = out.map toL ++ [r] := by
  have := h.eq
  rwa [List.take_of_length_le (by rw [toL_len]; exact Nat.le_refl _)] at this
theorem CutAt.len {c : UInt8} {s : ByteArray} {i : Nat} {out : List ByteArray} {r : List UInt8} (h : CutAt c s i out r) (hi : i ≤ s.size) : out.length ≤ i ∧ r.length ≤ i := by
  have h1 := spl_len c ((toL s).take i)
  have h2 := spl_piece (c := c) (l := (toL s).take i) (x := r) (by rw [h.eq]; simp)
  rw [h.eq] at h1
  rw [List.length_take, toL_len] at h1 h2
  simp at h1
  omega
/-- The words of a text, once all is read. -/
theorem CutAt.wds {c : UInt8} {s : ByteArray} {out : List ByteArray} {r : ByteArray} (h : CutAt c s s.size out (toL r)) : wds c s = out ++ [r] := by
  unfold Go.Proofs.YthabojhnliomnaaGreatDoor.wds
  rw [h.fin, List.map_append, map_bs_back, List.map_singleton, bs_back]
end Go.Proofs.YthabojhnliomnaaGreatDoor

namespace Go.Proofs.YthabojhnliomnaaGreatDoor
open Go.RowKit
set_option linter.unusedVariables false

/-- The lines, and what follows the last one. -/
def RetLns (base : Nat) (ls : List (List UInt8)) (w' : World) (e : Ending) : Prop := ∃ v r out, e = .returned (.tuple #[v, .string r]) ∧ Own cellsStr 1 base 9 w' v out ∧ ls = out.map toL ++ [toL r]
theorem byteEq {x : UInt8} {c : Nat} (h : x.toNat = c) : ((x.toNat : Int) == (c : Int)) = true := by rw [h]; simp
theorem byteNe {x : UInt8} {c : Nat} (h : ¬ x.toNat = c) : ((x.toNat : Int) == (c : Int)) = false := by rw [beq_eq_false_iff_ne]; omega
theorem byteNeT {x : UInt8} {c : Nat} (h : ¬ x.toNat = c) : ((x.toNat : Int) != (c : Int)) = true := by rw [bne, byteNe h]; rfl
theorem byteNeF {x : UInt8} {c : Nat} (h : x.toNat = c) : ((x.toNat : Int) != (c : Int)) = false := by rw [bne, byteEq h]; rfl
theorem u8_of {x c : UInt8} {n : Nat} (h : x.toNat = n) (hc : c.toNat = n) : x = c := UInt8.toNat_inj.1 (h.trans hc.symm)
theorem u8_ne {x c : UInt8} {n : Nat} (h : ¬ x.toNat = n) (hc : c.toNat = n) : ¬ x = c := fun e => h (by rw [e, hc])
set_option maxRecDepth 100000 in
set_option maxHeartbeats 1000000 in
theorem refLines_any (s : ByteArray) (w : World) (hs : s.size ≤ 65536) : Calls Tryz.prog 48 #[.string s] w fun e w' => RetLns w.heap.size (spl 10 (toL s)) w' e ∧ Below w.heap.size w w' := by
  go_enter Tryz.func48, Tryz.ntmps48
  go_wp2_with fail
  go_loopw [4, 5, 6] (fun v4 v5 v6 wr => ∃ (i a : Nat) (out : List ByteArray), v6 = .int .i64 i ∧ v5 = .int .i64 a ∧ a ≤ i ∧ i ≤ s.size ∧ Own cellsStr 1 w.heap.size 9 wr v4 out ∧ Hid (CutAt 10 s i out (toL (s.extract a i))) ∧ Below w.heap.size w wr) (fun _ _ v6 _ => s.size - (intOf v6).toNat)
  case atStart => exact ⟨0, 0, [], rfl, rfl, Nat.le_refl _, Nat.zero_le _, Own.nil, by rw [extract_none]; exact CutAt.start _ _, Below.refl _ _⟩
  case round =>
    obtain ⟨i, a, out, rfl, rfl, ha, hi, hown, HC, hbw⟩ := hrel
    have hol : out.length ≤ i := (HC.out.len hi).1
    by_cases hlt : i < s.size
    · by_cases hc : s[i].toNat = 10
      · have tc : ((s[i].toNat : Int) == 10) = true := byteEq hc
        have HN := Lib.hid (HC.out.sep hlt (u8_of hc rfl) (s.extract a i) rfl)
        clear hc HC
        go_wp2_with (at_builtin; refine wpList_push strsTy cellsStr_ok rfl (.tmp 17) (.tmp 22) rfl w.heap.size _ out rfl (hown.alloc _) (s.extract a i) _ _ rfl (cells_one_new _ _ _) (by unfold maxLen; omega) (by omega) (by have := hbw.size; simp; omega) ?_; intro v1 w1 hown1 hb1)
        go_roundw
        case rel => exact ⟨i + 1, i + 1, _, by go_num, by go_num, Nat.le_refl _, by omega, hown1, by rw [extract_none]; exact HN.out, (bw_alloc hbw).trans hb1⟩
        case measure => simp [intOf]; omega
      · have tc : ((s[i].toNat : Int) == 10) = false := byteNe hc
        have HN := Lib.hid (HC.out.non hlt (u8_ne hc rfl))
        clear hc HC
        rw [← extract_snoc ha hlt] at HN
        go_wp2_with fail
        go_roundw
        case rel => exact ⟨i + 1, a, out, by go_num, rfl, by omega, by omega, hown, HN, hbw⟩
        case measure => simp [intOf]; omega
    · obtain rfl : i = s.size := by omega
      have HF := Lib.hid HC.out.fin
      clear HC hlt
      go_wp2_with fail
      refine wp_region_later (by kernel_rfl) (by kernel_rfl) ?_
      repeat (go_big_quiet_step (fail))
      refine wpQuiet_nil ?_
      rintro _ ⟨z, rfl⟩
      go_wp2_with fail
      go_ret2
      exact ⟨⟨_, _, out, rfl, hown.mono z.h, HF.out⟩, below_step hbw z.h⟩
def RetWs (base : Nat) (ws : List ByteArray) (w' : World) (e : Ending) : Prop := ∃ v, e = .returned v ∧ Own cellsStr 1 base 9 w' v ws
theorem toL_append (a b : ByteArray) : toL (a ++ b) = toL a ++ toL b := by
  show (a ++ b).data.toList = _
  rw [ByteArray.data_append, Array.toList_append]
  rfl
theorem extract_one {s : ByteArray} {i : Nat} (h : i < s.size) : toL (s.extract i (i + 1)) = [s[i]] := by
  rw [extract_snoc (Nat.le_refl _) h, extract_none]; rfl
set_option maxRecDepth 100000 in
set_option maxHeartbeats 1000000 in
theorem refWords_any (s : ByteArray) (w : World) (hs : s.size ≤ 65536) : Calls Tryz.prog 97 #[.string s] w fun e w' => RetWs w.heap.size (wds 32 s) w' e ∧ Below w.heap.size w w' := by
  go_enter Tryz.func97, Tryz.ntmps97
  go_wp2_with fail
  go_loopw [3, 4, 5] (fun v4 v5 v6 wr => ∃ (i : Nat) (r : ByteArray) (out : List ByteArray), v6 = .int .i64 i ∧ v5 = .string r ∧ i ≤ s.size ∧ Own cellsStr 1 w.heap.size 9 wr v4 out ∧ Hid (CutAt 32 s i out (toL r)) ∧ Below w.heap.size w wr) (fun _ _ v6 _ => s.size - (intOf v6).toNat)
  case atStart => exact ⟨0, ⟨#[]⟩, [], rfl, rfl, Nat.zero_le _, Own.nil, CutAt.start _ _, Below.refl _ _⟩
  case round =>
    obtain ⟨i, r, out, rfl, rfl, hi, hown, HC, hbw⟩ := hrel
    have hol : out.length ≤ i := (HC.out.len hi).1
    have hrl : r.size ≤ i := by have := (HC.out.len hi).2; rwa [toL_len] at this
    by_cases hlt : i < s.size
    · by_cases hc : s[i].toNat = 32
      · have tc : ((s[i].toNat : Int) == 32) = true := byteEq hc
        have HN := Lib.hid (HC.out.sep hlt (u8_of hc rfl) r rfl)
        clear hc HC
        go_wp2_with (at_builtin; refine wpList_push strsTy cellsStr_ok rfl (.tmp 16) (.tmp 18) rfl w.heap.size _ out rfl (hown.alloc _) r _ _ rfl (cells_one_new _ _ _) (by unfold maxLen; omega) (by omega) (by have := hbw.size; simp; omega) ?_; intro v1 w1 hown1 hb1)
        go_roundw
        case rel => exact ⟨i + 1, ⟨#[]⟩, _, by go_num, rfl, by omega, hown1, HN.out, (bw_alloc hbw).trans hb1⟩
        case measure => simp [intOf]; omega
      · have tc : ((s[i].toNat : Int) == 32) = false := byteNe hc
        have HN := Lib.hid (HC.out.non hlt (u8_ne hc rfl))
        clear hc HC
        rw [← extract_one hlt, ← toL_append] at HN
        have hz1 : (s.extract i (i + 1)).size = 1 := by rw [← toL_len, extract_one hlt]; rfl
        go_wp2_with fail
        go_roundw
        case rel => exact ⟨i + 1, r ++ s.extract i (i + 1), out, by go_num, rfl, by omega, hown, HN, hbw⟩
        case measure => simp [intOf]; omega
    · obtain rfl : i = s.size := by omega
      have HF := Lib.hid HC.out.wds
      clear HC hlt
      go_wp2_with (at_builtin; refine wpList_push strsTy cellsStr_ok rfl (.tmp 27) (.tmp 29) rfl w.heap.size _ out rfl (hown.alloc _) r _ _ rfl (cells_one_new _ _ _) (by unfold maxLen; omega) (by omega) (by have := hbw.size; simp; omega) ?_; intro v1 w1 hown1 hb1)
      go_ret
      exact ⟨⟨_, rfl, by rw [HF.out]; exact hown1⟩, (bw_alloc hbw).trans hb1⟩
end Go.Proofs.YthabojhnliomnaaGreatDoor

namespace Go.Proofs.YthabojhnliomnaaGreatDoor
open Go.RowKit
set_option linter.unusedVariables false

theorem spl_app_sep (c : UInt8) (t : List UInt8) : ∀ l : List UInt8, spl c (l ++ c :: t) = spl c l ++ spl c t
  | [] => by simp [spl]
  | y :: l => by
    rw [List.cons_append, spl, spl]
    by_cases hy : y = c
    · rw [if_pos hy, if_pos hy, spl_app_sep c t l]; rfl
    · rw [if_neg hy, if_neg hy, spl_app_sep c t l]
      cases hs : spl c l with
      | nil => exact absurd hs (spl_ne _ _)
      | cons z r => rfl
theorem cutAt_mem_sep {c : UInt8} {s : ByteArray} {i : Nat} {out : List ByteArray} {r : ByteArray} (h : CutAt c s i out (toL r)) (hi : i < s.size) (hc : s[i] = c) : r ∈ wds c s := by
  have h1 : toL s = (toL s).take i ++ c :: (toL s).drop (i + 1) := by
    conv => lhs; rw [← List.take_append_drop (i + 1) (toL s), toL_at hi, hc]
    simp
  have h2 : toL r ∈ spl c (toL s) := by
    rw [h1, spl_app_sep, h.eq]; simp
  unfold wds
  rw [List.mem_map]
  exact ⟨toL r, h2, bs_back r⟩
def RetWb (base : Nat) (ws : List ByteArray) (w' : World) (e : Ending) : Prop := ∃ v b, e = .returned (.tuple #[v, .bool b]) ∧ b = !hasE ws ∧ (b = true → Own cellsStr 1 base 9 w' v ws)
theorem size_isE {x : ByteArray} (h : x.toList.isEmpty = true) : x = ⟨#[]⟩ := by
  have := isE_iff.1 h
  apply ByteArray.ext
  exact Array.eq_empty_of_size_eq_zero this
theorem isE_no {x : ByteArray} (h : x.toList.isEmpty = false) : x ≠ ⟨#[]⟩ := fun e => by
  subst e
  rw [isE_iff.2 rfl] at h
  cases h
theorem hasE_none {ws : List ByteArray} (h : ∀ x ∈ ws, x ≠ ⟨#[]⟩) : hasE ws = false := by
  cases hb : hasE ws with
  | false => rfl
  | true => exact absurd rfl (h _ (hasE_iff.1 hb))
set_option maxRecDepth 100000 in
set_option maxHeartbeats 1000000 in
theorem refWordsB_any (s : ByteArray) (w : World) (hs : s.size ≤ 65536) : Calls Tryz.prog 95 #[.string s] w fun e w' => RetWb w.heap.size (wds 32 s) w' e ∧ Below w.heap.size w w' := by
  go_enter Tryz.func95, Tryz.ntmps95
  go_wp2_with fail
  go_loopw [4, 5, 6] (fun v4 v5 v6 wr => ∃ (i : Nat) (r : ByteArray) (out : List ByteArray), v6 = .int .i64 i ∧ v5 = .string r ∧ i ≤ s.size ∧ Own cellsStr 1 w.heap.size 9 wr v4 out ∧ Hid (CutAt 32 s i out (toL r) ∧ ∀ x ∈ out, x ≠ ⟨#[]⟩) ∧ Below w.heap.size w wr) (fun _ _ v6 _ => s.size - (intOf v6).toNat)
  case atStart => exact ⟨0, ⟨#[]⟩, [], rfl, rfl, Nat.zero_le _, Own.nil, ⟨CutAt.start _ _, by simp⟩, Below.refl _ _⟩
  case round =>
    obtain ⟨i, r, out, rfl, rfl, hi, hown, HC, hbw⟩ := hrel
    have hol : out.length ≤ i := (HC.out.1.len hi).1
    have hrl : r.size ≤ i := by have := (HC.out.1.len hi).2; rwa [toL_len] at this
    by_cases hlt : i < s.size
    · by_cases hc : s[i].toNat = 32
      · have tc : ((s[i].toNat : Int) != 32) = false := byteNeF hc
        cases he : r.toList.isEmpty with
        | true =>
          have HM : Hid (hasE (wds 32 s) = true) := hasE_iff.2 (size_isE he ▸ cutAt_mem_sep HC.out.1 hlt (u8_of hc rfl))
          clear hc HC
          go_wp2_with fail
          go_ret2
          exact ⟨⟨_, false, rfl, by rw [HM.out]; rfl, fun h => by cases h⟩, hbw⟩
        | false =>
          have he2 : r.toList ≠ [] := fun h => by rw [h] at he; simp at he
          have HN : Hid (CutAt 32 s (i + 1) (out ++ [r]) [] ∧ ∀ x ∈ out ++ [r], x ≠ ⟨#[]⟩) := ⟨HC.out.1.sep hlt (u8_of hc rfl) r rfl, fun x hx => by
            rcases List.mem_append.1 hx with hx | hx
            · exact HC.out.2 x hx
            · simp at hx; subst hx; exact isE_no he⟩
          clear hc HC
          go_wp2_with (at_builtin; refine wpList_push strsTy cellsStr_ok rfl (.tmp 26) (.tmp 28) rfl w.heap.size _ out rfl (hown.alloc _) r _ _ rfl (cells_one_new _ _ _) (by unfold maxLen; omega) (by omega) (by have := hbw.size; simp; omega) ?_; intro v1 w1 hown1 hb1)
          go_roundw
          case rel => exact ⟨i + 1, ⟨#[]⟩, _, by go_num, rfl, by omega, hown1, HN, (bw_alloc hbw).trans hb1⟩
          case measure => simp [intOf]; omega
      · have tc : ((s[i].toNat : Int) != 32) = true := byteNeT hc
        have HN0 := Lib.hid (HC.out.1.non hlt (u8_ne hc rfl))
        rw [← extract_one hlt, ← toL_append] at HN0
        have HN : Hid (CutAt 32 s (i + 1) out (toL (r ++ s.extract i (i + 1))) ∧ ∀ x ∈ out, x ≠ ⟨#[]⟩) := ⟨HN0.out, HC.out.2⟩
        clear hc HC HN0
        have hz1 : (s.extract i (i + 1)).size = 1 := by rw [← toL_len, extract_one hlt]; rfl
        go_wp2_with fail
        go_roundw
        case rel => exact ⟨i + 1, r ++ s.extract i (i + 1), out, by go_num, rfl, by omega, hown, HN, hbw⟩
        case measure => simp [intOf]; omega
    · obtain rfl : i = s.size := by omega
      have HF := Lib.hid HC.out.1.wds
      cases he : r.toList.isEmpty with
      | true =>
        have HM : Hid (hasE (wds 32 s) = true) := hasE_iff.2 (by rw [HF.out]; have := size_isE he; subst this; simp)
        clear HC hlt
        go_wp2_with (at_builtin; refine wpList_push strsTy cellsStr_ok rfl (.tmp 30) (.tmp 32) rfl w.heap.size _ out rfl (hown.alloc _) r _ _ rfl (cells_one_new _ _ _) (by unfold maxLen; omega) (by omega) (by have := hbw.size; simp; omega) ?_; intro v1 w1 hown1 hb1)
        go_ret2
        exact ⟨⟨_, false, rfl, by rw [HM.out]; rfl, fun h => by cases h⟩, (bw_alloc hbw).trans hb1⟩
      | false =>
        have he2 : r.toList ≠ [] := fun h => by rw [h] at he; simp at he
        have HM : Hid (hasE (wds 32 s) = false) := hasE_none (fun x hx => by
          rw [HF.out] at hx
          rcases List.mem_append.1 hx with hx | hx
          · exact HC.out.2 x hx
          · simp at hx; subst hx; exact isE_no he)
        clear HC hlt
        go_wp2_with (at_builtin; refine wpList_push strsTy cellsStr_ok rfl (.tmp 30) (.tmp 32) rfl w.heap.size _ out rfl (hown.alloc _) r _ _ rfl (cells_one_new _ _ _) (by unfold maxLen; omega) (by omega) (by have := hbw.size; simp; omega) ?_; intro v1 w1 hown1 hb1)
        go_ret2
        exact ⟨⟨_, true, rfl, by rw [HM.out]; rfl, fun _ => by rw [HF.out]; exact hown1⟩, (bw_alloc hbw).trans hb1⟩
set_option maxRecDepth 100000 in
set_option maxHeartbeats 1000000 in
theorem refDots_any (s : ByteArray) (w : World) (hs : s.size ≤ 65536) : Calls Tryz.prog 139 #[.string s] w fun e w' => RetWs w.heap.size (wds 46 s) w' e ∧ Below w.heap.size w w' := by
  go_enter Tryz.func139, Tryz.ntmps139
  go_wp2_with fail
  go_loopw [3, 4, 5] (fun v4 v5 v6 wr => ∃ (i a : Nat) (out : List ByteArray), v6 = .int .i64 i ∧ v5 = .int .i64 a ∧ i ≤ s.size + 1 ∧ a ≤ i ∧ out.length ≤ i ∧ Own cellsStr 1 w.heap.size 9 wr v4 out ∧ Hid ((i ≤ s.size → CutAt 46 s i out (toL (s.extract a i))) ∧ (i = s.size + 1 → wds 46 s = out)) ∧ Below w.heap.size w wr) (fun _ _ v6 _ => s.size + 1 - (intOf v6).toNat)
  case atStart => exact ⟨0, 0, [], rfl, rfl, Nat.zero_le _, Nat.le_refl _, Nat.le_refl _, Own.nil, ⟨fun _ => by rw [extract_none]; exact CutAt.start _ _, fun h => by omega⟩, Below.refl _ _⟩
  case round =>
    obtain ⟨i, a, out, rfl, rfl, hi, ha, hol, hown, HC, hbw⟩ := hrel
    by_cases hle : i ≤ s.size
    · have HC1 := Lib.hid (HC.out.1 hle)
      clear HC
      by_cases hlt : i < s.size
      · have ti : ((i : Int) == (s.size : Int)) = false := by rw [beq_eq_false_iff_ne]; omega
        by_cases hc : s[i].toNat = 46
        · have tc : ((s[i].toNat : Int) == 46) = true := byteEq hc
          have HN0 := Lib.hid (HC1.out.sep hlt (u8_of hc rfl) (s.extract a i) rfl)
          have HN : Hid ((i + 1 ≤ s.size → CutAt 46 s (i + 1) (out ++ [s.extract a i]) (toL (s.extract (i + 1) (i + 1)))) ∧ (i + 1 = s.size + 1 → wds 46 s = (out ++ [s.extract a i]))) := ⟨fun _ => by rw [extract_none]; exact HN0.out, fun h => by omega⟩
          clear hc HC1 HN0
          go_wp2_with (at_builtin; refine wpList_push strsTy cellsStr_ok rfl (.tmp 22) (.tmp 27) rfl w.heap.size _ out rfl (hown.alloc _) (s.extract a i) _ _ rfl (cells_one_new _ _ _) (by unfold maxLen; omega) (by omega) (by have := hbw.size; simp; omega) ?_; intro v1 w1 hown1 hb1)
          go_roundw
          case rel => exact ⟨i + 1, i + 1, _, by go_num, by go_num, by omega, Nat.le_refl _, by rw [List.length_append]; simp; omega, hown1, HN, (bw_alloc hbw).trans hb1⟩
          case measure => simp [intOf]; omega
        · have tc : ((s[i].toNat : Int) == 46) = false := byteNe hc
          have HN0 := Lib.hid (HC1.out.non hlt (u8_ne hc rfl))
          rw [← extract_snoc ha hlt] at HN0
          have HN : Hid ((i + 1 ≤ s.size → CutAt 46 s (i + 1) out (toL (s.extract a (i + 1)))) ∧ (i + 1 = s.size + 1 → wds 46 s = out)) := ⟨fun _ => HN0.out, fun h => by omega⟩
          clear hc HC1 HN0
          go_wp2_with fail
          go_roundw
          case rel => exact ⟨i + 1, a, out, by go_num, rfl, by omega, by omega, by omega, hown, HN, hbw⟩
          case measure => simp [intOf]; omega
      · obtain rfl : i = s.size := by omega
        have ti : ((s.size : Int) == (s.size : Int)) = true := by simp
        have HF := Lib.hid HC1.out.wds
        have HN : Hid ((s.size + 1 ≤ s.size → CutAt 46 s (s.size + 1) (out ++ [s.extract a s.size]) (toL (s.extract (s.size + 1) (s.size + 1)))) ∧ (s.size + 1 = s.size + 1 → wds 46 s = (out ++ [s.extract a s.size]))) := ⟨fun h => by omega, fun _ => HF.out⟩
        clear HC1 hlt HF
        go_wp2_with (at_builtin; refine wpList_push strsTy cellsStr_ok rfl (.tmp 22) (.tmp 27) rfl w.heap.size _ out rfl (hown.alloc _) (s.extract a s.size) _ _ rfl (cells_one_new _ _ _) (by unfold maxLen; omega) (by omega) (by have := hbw.size; simp; omega) ?_; intro v1 w1 hown1 hb1)
        go_roundw
        case rel => exact ⟨s.size + 1, s.size + 1, _, by go_num, by go_num, by omega, Nat.le_refl _, by rw [List.length_append]; simp; omega, hown1, HN, (bw_alloc hbw).trans hb1⟩
        case measure => simp [intOf]
    · obtain rfl : i = s.size + 1 := by omega
      have HF := Lib.hid (HC.out.2 rfl)
      clear HC hle
      go_wp2_with fail
      go_ret
      exact ⟨⟨_, rfl, by rw [HF.out]; exact hown⟩, hbw⟩
end Go.Proofs.YthabojhnliomnaaGreatDoor

namespace Go.Proofs.YthabojhnliomnaaGreatDoor
open Go.RowKit
set_option linter.unusedVariables false

def formB (ws : List ByteArray) (f : List UInt8) (n : Nat) : Bool := decide (toL (ws.headD ⟨#[]⟩) = f) && (if n = 0 then decide (2 ≤ ws.length) else decide (ws.length = n)) && !hasE ws
theorem headD_at {ws : List ByteArray} (h : 0 < ws.length) : ws.headD ⟨#[]⟩ = ws[0] := by
  cases ws with
  | nil => simp at h
  | cons a b => rfl
set_option maxRecDepth 100000 in
set_option maxHeartbeats 1000000 in
theorem refForm_any (A : Option Addr) (c : Nat) (ws : List ByteArray) (f : ByteArray) (n : Nat) (w : World) (h0 : 0 < ws.length) (hl : ws.length ≤ 100000) (hn : n ≤ 10) (hs : Sl Lay.str w A ws) :
    Calls Tryz.prog 99 #[.slice A ws.length c, .string f, .int .i64 n] w fun e w' => e = .returned (.bool (formB ws (toL f) n)) ∧ w = w' := by
  obtain ⟨r, HR⟩ : ∃ r, Hid (r = formB ws (toL f) n) := ⟨_, Lib.hid rfl⟩
  rw [← HR.out]
  have HAT : Hid (∀ W, W = w → Calls Tryz.prog 79 #[.slice A ws.length c, .string ⟨#[]⟩] W fun e w' => e = .returned (.int .i64 (atI ws ⟨#[]⟩)) ∧ W = w') := fun W hW => by subst hW; exact refAt_any A c ws ⟨#[]⟩ W (by omega) hs
  have HHE : Hid (hasE ws = decide (0 ≤ atI ws ⟨#[]⟩)) := rfl
  obtain ⟨b, o, rfl, hb, d0⟩ := hs.str_at h0
  have d0' : w.cell? ⟨b, o, none⟩ = some (.string ws[0]) := d0
  clear d0
  have HHD := Lib.hid (headD_at h0)
  unfold formB at HR
  generalize atI ws ⟨#[]⟩ = q at *
  cases hq : (ws[0].toList == f.toList) with
  | false =>
    have tq : (ws[0].toList != f.toList) = true := by rw [bne, hq]; rfl
    have HB : Hid (r = false) := by
      show _ = _
      rw [HR.out, HHD.out, decide_eq_false]
      · rfl
      · intro e
        rw [ByteArray.toList_eq', ByteArray.toList_eq', e] at hq
        simp at hq
    have hne : ¬ ws[0].toList = f.toList := by simpa using hq
    clear HR
    go_enter Tryz.func99, Tryz.ntmps99
    go_wp2_with fail
    go_ret
    exact ⟨by rw [HB.out]; rfl, rfl⟩
  | true =>
    have tq : (ws[0].toList != f.toList) = false := by rw [bne, hq]; rfl
    have HR2 : Hid (r = ((if n = 0 then decide (2 ≤ ws.length) else decide (ws.length = n)) && !decide (0 ≤ q))) := by
      show _ = _
      rw [HR.out, HHD.out, HHE.out, decide_eq_true]
      · simp
      · rw [beq_iff_eq, ByteArray.toList_eq', ByteArray.toList_eq'] at hq
        exact hq
    have heq : ws[0].toList = f.toList := by simpa using hq
    clear HR
    by_cases hn0 : n = 0
    · subst hn0
      by_cases h2 : 2 ≤ ws.length
      · have HB : Hid (r = decide (q < 0)) := by
          show _ = _
          rw [HR2.out, if_pos rfl, decide_eq_true h2]
          by_cases h : q < 0
          · simp [h]
          · simp [h]; omega
        have t2 : ¬ (ws.length : Int) < 2 := by omega
        clear HR2
        go_enter Tryz.func99, Tryz.ntmps99
        go_wp2_with fail
        refine (HAT.out _ rfl).mono ?_
        rintro e w1 ⟨rfl, rfl⟩
        go_wp2_with fail
        go_ret
        exact ⟨by rw [HB.out]; rfl, rfl⟩
      · have HB : Hid (r = false) := by show _ = _; rw [HR2.out, if_pos rfl, decide_eq_false h2]; rfl
        have t2 : (ws.length : Int) < 2 := by omega
        clear HR2
        go_enter Tryz.func99, Tryz.ntmps99
        go_wp2_with fail
        go_ret
        exact ⟨by rw [HB.out]; rfl, rfl⟩
    · have tn : (0 : Int) < (n : Int) := by omega
      have tn2 : ((n : Int) == 0) = false := by rw [beq_eq_false_iff_ne]; omega
      by_cases h2 : ws.length = n
      · have HB : Hid (r = decide (q < 0)) := by
          show _ = _
          rw [HR2.out, if_neg hn0, decide_eq_true h2]
          by_cases h : q < 0
          · simp [h]
          · simp [h]; omega
        have t2 : ((ws.length : Int) != (n : Int)) = false := by rw [bne_eq_false_iff_eq]; omega
        clear HR2 h2 hn0
        go_enter Tryz.func99, Tryz.ntmps99
        go_wp2_with fail
        refine (HAT.out _ rfl).mono ?_
        rintro e w1 ⟨rfl, rfl⟩
        go_wp2_with fail
        go_ret
        exact ⟨by rw [HB.out]; rfl, rfl⟩
      · have HB : Hid (r = false) := by show _ = _; rw [HR2.out, if_neg hn0, decide_eq_false h2]; rfl
        have t2 : ((ws.length : Int) != (n : Int)) = true := by rw [bne_iff_ne]; omega
        clear HR2 h2 hn0
        go_enter Tryz.func99, Tryz.ntmps99
        go_wp2_with fail
        go_ret
        exact ⟨by rw [HB.out]; rfl, rfl⟩
end Go.Proofs.YthabojhnliomnaaGreatDoor

namespace Go.Proofs.YthabojhnliomnaaGreatDoor
open Go.RowKit
set_option linter.unusedVariables false

def preT (s : ByteArray) : Nat → Bool × Int × ByteArray
  | 0 => (decide (3 < s.size) && ((s.extract 0 3).toList == [97, 114, 103]), 1, s.extract 3 s.size)
  | 1 => (decide (3 < s.size) && ((s.extract 0 3).toList == [118, 97, 114]), 3, s.extract 3 s.size)
  | 2 => (decide (4 < s.size) && ((s.extract 0 4).toList == [115, 105, 116, 101]), 4, s.extract 4 s.size)
  | _ => (false, 0, ⟨#[]⟩)
def pqB (s : ByteArray) : Nat → Int × ByteArray
  | 0 => (0, ⟨#[]⟩)
  | k + 1 => if (preT s k).1 = true then (preT s k).2 else pqB s k
theorem toL_from (s : ByteArray) (k : Nat) : toL (s.extract k s.size) = (toL s).drop k := by
  rw [toL_extract, List.take_of_length_le (by rw [toL_len]; exact Nat.le_refl _)]
theorem take_pre {s : ByteArray} {p : List UInt8} : (decide (p.length < s.size) && ((s.extract 0 p.length).toList == p)) = (Lib.hasPrefix (toL s) p && decide (p.length < s.size)) := by
  rw [ByteArray.toList_eq' (s.extract 0 p.length), toL_extract, List.drop_zero, Bool.and_comm]
  congr 1
  unfold Lib.hasPrefix
  rw [Bool.eq_iff_iff, beq_iff_eq, List.isPrefixOf_iff_prefix]
  constructor
  · intro h; rw [← h]; exact List.take_prefix _ _
  · rintro ⟨t, h⟩; rw [← h]; simp
theorem badD_nil : badD [] = true := rfl
theorem drop_short {s : ByteArray} {k : Nat} (h : ¬ k < s.size) : (toL s).drop k = [] := List.drop_eq_nil_of_le (by rw [toL_len]; omega)
theorem rootP_pre {s : ByteArray} (h : toL s ≠ wRes) : rootP (toL s) = if badD (toL (pqB s 3).2) || !(toL (pqB s 3).2).all digU then (0, 0, false) else ((pqB s 3).1, numG (toL (pqB s 3).2) 0, true) := by
  have e1 := take_pre (s := s) (p := [115, 105, 116, 101])
  have e2 := take_pre (s := s) (p := [118, 97, 114])
  have e3 := take_pre (s := s) (p := [97, 114, 103])
  simp only [List.length_cons, List.length_nil, Nat.zero_add, Nat.reduceAdd] at e1 e2 e3
  have hnil : toL ⟨#[]⟩ = [] := rfl
  unfold rootP
  simp only [pqB, preT]
  rw [if_neg h, e1, e2, e3]
  rcases preW (toL s) with ⟨h1, h2, h3, hp⟩ | ⟨h1, h2, h3, hp⟩ | ⟨h1, h2, h3, hp⟩ | ⟨h1, h2, h3, hp⟩ <;> rw [hp] <;> unfold pArg at h1 <;> unfold pVar at h2 <;> unfold pSite at h3 <;> rw [h1, h2, h3]
  · by_cases hl : 3 < s.size
    · simp [hl, toL_from]
    · simp [hl, hnil, badD_nil, drop_short hl]
  · by_cases hl : 3 < s.size
    · simp [hl, toL_from]
    · simp [hl, hnil, badD_nil, drop_short hl]
  · by_cases hl : 4 < s.size
    · simp [hl, toL_from]
    · simp [hl, hnil, badD_nil, drop_short hl]
  · simp [hnil, badD_nil]
theorem pqB_zero {s D : ByteArray} {k : Int} (h : pqB s 3 = (k, D)) : (k = 0 → toL D = []) ∧ D.size ≤ s.size ∧ (k ≠ 0 → 0 < D.size) := by
  have hx : ∀ j, (s.extract j s.size).size ≤ s.size := fun j => by rw [ByteArray.size_extract]; omega
  have hy : ∀ {j : Nat} {b : Bool}, (decide (j < s.size) && b) = true → 0 < (s.extract j s.size).size := fun {j b} h => by
    rw [Bool.and_eq_true] at h
    have := of_decide_eq_true h.1
    rw [ByteArray.size_extract]; omega
  simp only [pqB, preT] at h
  repeat' split at h
  all_goals
    rename_i hq
    obtain ⟨rfl, rfl⟩ := Prod.mk.inj h
    refine ⟨by first | (intro _; rfl) | (intro e; omega), by first | exact hx _ | exact Nat.zero_le _, ?_⟩
    first | exact fun _ => hy hq | exact fun h => absurd rfl h
/-- Too long, or led by a zero. -/
def badR (D : ByteArray) : Bool := decide (9 < D.size) || (decide (1 < D.size) && ((toL D).head? == some 48))
theorem badD_R {D : ByteArray} : badD (toL D) = ((toL D).isEmpty || badR D) := by
  unfold badD badR
  rw [toL_len, Bool.or_assoc]
set_option maxRecDepth 100000 in
set_option maxHeartbeats 4000000 in
theorem refRoot_any (s : ByteArray) (w : World) (hs : s.size ≤ 70000) :
    Calls Tryz.prog 140 #[.string s] w fun e w' => e = .returned (.tuple #[.int .i64 (rootP (toL s)).1, .int .i64 (rootP (toL s)).2.1, .bool (rootP (toL s)).2.2]) ∧ w = w' := by
  obtain ⟨r, HR⟩ : ∃ r, Hid (r = rootP (toL s)) := ⟨_, Lib.hid rfl⟩
  rw [← HR.out]
  have HRET : Hid (∀ (a b : Int) (c : Bool), r = (a, b, c) → (Ending.returned (.tuple #[.int .i64 a, .int .i64 b, .bool c]) = Ending.returned (.tuple #[.int .i64 r.1, .int .i64 r.2.1, .bool r.2.2]))) := fun a b c h => by rw [h]
  go_enter Tryz.func140, Tryz.ntmps140
  by_cases hres : toL s = wRes
  · have HB : Hid (r = (2, 0, true)) := by show _ = _; rw [HR.out, rootP, if_pos hres]
    obtain rfl : s = ⟨#[114, 101, 115, 117, 108, 116]⟩ := toL_inj hres
    clear hres HR
    go_wp2_with fail
    go_ret3
    exact ⟨HRET.out _ _ _ HB.out, rfl⟩
  have tres : (s.toList == [114, 101, 115, 117, 108, 116]) = false := by
    rw [beq_eq_false_iff_ne]
    intro h
    rw [ByteArray.toList_eq] at h
    exact hres h
  have HR2 : Hid (r = if badD (toL (pqB s 3).2) || !(toL (pqB s 3).2).all digU then (0, 0, false) else ((pqB s 3).1, numG (toL (pqB s 3).2) 0, true)) := by show _ = _; rw [HR.out, rootP_pre hres]
  clear HR hres
  go_upto_region 5 with fail
  go_cut [18] (fun c wx => c = .bool (decide (3 < s.size) && ((s.extract 0 3).toList == [97, 114, 103])) ∧ w = wx)
  case first =>
    by_cases h3 : 3 < s.size
    · go_wp2_with fail
      go_meet
      exact ⟨by rw [decide_eq_true h3]; rfl, rfl⟩
    · go_wp2_with fail
      go_meet
      exact ⟨by rw [decide_eq_false h3]; rfl, rfl⟩
  case rest =>
  obtain ⟨rfl, rfl⟩ := hcut
  have hsz0 : (decide (3 < s.size) && ((s.extract 0 3).toList == [97, 114, 103])) = true → 3 < s.size := fun h => by
    rw [Bool.and_eq_true] at h
    exact of_decide_eq_true h.1
  obtain ⟨b, HBB⟩ : ∃ b, Hid (b = (decide (3 < s.size) && ((s.extract 0 3).toList == [97, 114, 103]))) := ⟨_, Lib.hid rfl⟩
  rw [← HBB.out] at hsz0 ⊢
  have HSZ := Lib.hid hsz0
  clear hsz0
  go_upto_if 18 with fail
  go_cut [5, 6] (fun v5 v6 wx => ∃ (k : Int) (D : ByteArray), v5 = .int .i64 k ∧ v6 = .string D ∧ Hid (pqB s 1 = (k, D)) ∧ w = wx)
  case first =>
    cases b with
    | true =>
      have h3 := HSZ.out rfl
      go_wp2_with fail
      go_meet
      exact ⟨1, s.extract 3 s.size, rfl, rfl, by show _ = _; simp only [pqB, preT]; rw [if_pos HBB.out.symm], rfl⟩
    | false =>
      go_wp2_with fail
      go_meet
      exact ⟨0, ⟨#[]⟩, rfl, rfl, by show _ = _; rw [pqB, preT, if_neg (by rw [← HBB.out]; simp)]; rfl, rfl⟩
  case rest =>
  clear HSZ HBB b
  obtain ⟨K, E, rfl, rfl, HPQ, rfl⟩ := hcut
  go_upto_region 8 with fail
  go_cut [28] (fun c wx => c = .bool (decide (3 < s.size) && ((s.extract 0 3).toList == [118, 97, 114])) ∧ w = wx)
  case first =>
    by_cases h3 : 3 < s.size
    · go_wp2_with fail
      go_meet
      exact ⟨by rw [decide_eq_true h3]; rfl, rfl⟩
    · go_wp2_with fail
      go_meet
      exact ⟨by rw [decide_eq_false h3]; rfl, rfl⟩
  case rest =>
  obtain ⟨rfl, rfl⟩ := hcut
  have hsz1 : (decide (3 < s.size) && ((s.extract 0 3).toList == [118, 97, 114])) = true → 3 < s.size := fun h => by
    rw [Bool.and_eq_true] at h
    exact of_decide_eq_true h.1
  obtain ⟨b, HBB⟩ : ∃ b, Hid (b = (decide (3 < s.size) && ((s.extract 0 3).toList == [118, 97, 114]))) := ⟨_, Lib.hid rfl⟩
  rw [← HBB.out] at hsz1 ⊢
  have HSZ := Lib.hid hsz1
  clear hsz1
  go_upto_if 28 with fail
  go_cut [5, 6] (fun v5 v6 wx => ∃ (k : Int) (D : ByteArray), v5 = .int .i64 k ∧ v6 = .string D ∧ Hid (pqB s 2 = (k, D)) ∧ w = wx)
  case first =>
    cases b with
    | true =>
      have h3 := HSZ.out rfl
      go_wp2_with fail
      go_meet
      exact ⟨3, s.extract 3 s.size, rfl, rfl, by show _ = _; simp only [pqB, preT]; rw [if_pos HBB.out.symm], rfl⟩
    | false =>
      go_wp2_with fail
      go_meet
      exact ⟨K, E, rfl, rfl, by show _ = _; rw [pqB, preT, if_neg (by rw [← HBB.out]; simp)]; exact HPQ.out, rfl⟩
  case rest =>
  clear HSZ HBB b HPQ
  obtain ⟨K, E, rfl, rfl, HPQ, rfl⟩ := hcut
  go_upto_region 11 with fail
  go_cut [38] (fun c wx => c = .bool (decide (4 < s.size) && ((s.extract 0 4).toList == [115, 105, 116, 101])) ∧ w = wx)
  case first =>
    by_cases h3 : 4 < s.size
    · go_wp2_with fail
      go_meet
      exact ⟨by rw [decide_eq_true h3]; rfl, rfl⟩
    · go_wp2_with fail
      go_meet
      exact ⟨by rw [decide_eq_false h3]; rfl, rfl⟩
  case rest =>
  obtain ⟨rfl, rfl⟩ := hcut
  have hsz2 : (decide (4 < s.size) && ((s.extract 0 4).toList == [115, 105, 116, 101])) = true → 4 < s.size := fun h => by
    rw [Bool.and_eq_true] at h
    exact of_decide_eq_true h.1
  obtain ⟨b, HBB⟩ : ∃ b, Hid (b = (decide (4 < s.size) && ((s.extract 0 4).toList == [115, 105, 116, 101]))) := ⟨_, Lib.hid rfl⟩
  rw [← HBB.out] at hsz2 ⊢
  have HSZ := Lib.hid hsz2
  clear hsz2
  go_upto_if 38 with fail
  go_cut [5, 6] (fun v5 v6 wx => ∃ (k : Int) (D : ByteArray), v5 = .int .i64 k ∧ v6 = .string D ∧ Hid (pqB s 3 = (k, D)) ∧ w = wx)
  case first =>
    cases b with
    | true =>
      have h3 := HSZ.out rfl
      go_wp2_with fail
      go_meet
      exact ⟨4, s.extract 4 s.size, rfl, rfl, by show _ = _; simp only [pqB, preT]; rw [if_pos HBB.out.symm], rfl⟩
    | false =>
      go_wp2_with fail
      go_meet
      exact ⟨K, E, rfl, rfl, by show _ = _; rw [pqB, preT, if_neg (by rw [← HBB.out]; simp)]; exact HPQ.out, rfl⟩
  case rest =>
  clear HSZ HBB b HPQ
  obtain ⟨K, E, rfl, rfl, HPQ, rfl⟩ := hcut
  obtain ⟨hK0, hEs, hKp⟩ := pqB_zero HPQ.out
  have HKP := Lib.hid hKp
  clear hKp
  have HR3 : Hid (r = if badD (toL E) || !(toL E).all digU then (0, 0, false) else (K, numG (toL E) 0, true)) := by show _ = _; rw [HR2.out, HPQ.out]
  have HK0 := Lib.hid hK0
  clear HR2 HPQ hK0
  go_upto_region 14 with fail
  go_cut [57] (fun c wx => c = .bool (decide (K = 0) || badR E) ∧ w = wx)
  case first =>
    by_cases hk : K = 0
    · subst hk
      go_wp2_with fail
      go_meet
      exact ⟨rfl, rfl⟩
    have tk : (K == 0) = false := by rw [beq_eq_false_iff_ne]; exact hk
    by_cases h9 : 9 < E.size
    · go_wp2_with fail
      go_meet
      exact ⟨by unfold badR; rw [decide_eq_true h9]; simp, rfl⟩
    by_cases h1 : 1 < E.size
    · have h2 : (toL E).head? = some E[0] := head_toL (by omega)
      by_cases hz : E[0].toNat = 48
      · have tz : ((E[0].toNat : Int) == 48) = true := byteEq hz
        have h3 : E[0] = 48 := u8_of hz rfl
        have HB : Hid ((decide (K = 0) || badR E) = true) := by
          show _ = _
          unfold badR; rw [decide_eq_true h1, h2, h3]; simp
        clear h2 h3 hz
        go_wp2_with fail
        go_meet
        exact ⟨by rw [HB.out], rfl⟩
      · have tz : ((E[0].toNat : Int) == 48) = false := byteNe hz
        have h3 : ¬ E[0] = 48 := u8_ne hz rfl
        have HB : Hid ((decide (K = 0) || badR E) = false) := by
          show _ = _
          unfold badR; rw [decide_eq_false h9, decide_eq_false hk, h2]; simp [h3]
        clear h2 h3 hz
        go_wp2_with fail
        go_meet
        exact ⟨by rw [HB.out, decide_eq_false (by omega)], rfl⟩
    · have HB : Hid ((decide (K = 0) || badR E) = false) := by
        show _ = _
        unfold badR; rw [decide_eq_false h9, decide_eq_false hk, decide_eq_false h1]; simp
      go_wp2_with fail
      go_meet
      exact ⟨by rw [HB.out, decide_eq_false (by omega)], rfl⟩
  case rest =>
  obtain ⟨rfl, rfl⟩ := hcut
  cases hbad : (decide (K = 0) || badR E) with
  | true =>
    have HB : Hid (r = (0, 0, false)) := by
      show _ = _
      have : badD (toL E) = true := by
        rw [badD_R]
        rw [Bool.or_eq_true] at hbad ⊢
        rcases hbad with h | h
        · exact Or.inl (by rw [HK0.out (of_decide_eq_true h)]; rfl)
        · exact Or.inr h
      rw [HR3.out, this]; rfl
    clear hbad
    go_wp2_with fail
    go_ret3
    exact ⟨HRET.out _ _ _ HB.out, rfl⟩
  | false =>
  rw [Bool.or_eq_false_iff] at hbad
  obtain ⟨hbk, hbr⟩ := hbad
  have hE0 : 0 < E.size := HKP.out (of_decide_eq_false hbk)
  have hE9 : E.size ≤ 9 := by
    have hbr2 := hbr
    unfold badR at hbr2
    rw [Bool.or_eq_false_iff] at hbr2
    have := of_decide_eq_false hbr2.1
    omega
  have HR4 : Hid (r = if !(toL E).all digU then (0, 0, false) else (K, numG (toL E) 0, true)) := by
    have h1 : (toL E).isEmpty = false := by
      cases hq : toL E with
      | nil => rw [← toL_len, hq] at hE0; simp at hE0
      | cons a b => rfl
    show _ = _
    rw [HR3.out, badD_R, h1, hbr]; rfl
  have HFAIL2 : Hid ((toL E).all digU = false → r = (0, 0, false)) := fun h => by rw [HR4.out, h]; simp
  have HFINE : Hid ((toL E).all digU = true → r = (K, numG (toL E) 0, true)) := fun h => by rw [HR4.out, h]; simp
  clear hbr hbk HR3 HK0 HKP HR4
  go_wp2_with fail
  go_loop [7, 8] (fun v7 i => ∃ (m : Nat) (n : Int), m ≤ E.size ∧ i = .int .i64 m ∧ v7 = .int .i64 n ∧ 0 ≤ n ∧ n ≤ 999999999 ∧ Hid (n = numG ((toL E).take m) 0 ∧ n < 10 ^ m ∧ ((toL E).take m).all digU = true)) (fun _ i => E.size - (intOf i).toNat)
  case atStart => exact ⟨0, 0, Nat.zero_le _, rfl, rfl, by omega, by omega, rfl, by decide, rfl⟩
  case round =>
    obtain ⟨m, n, hm, rfl, rfl, hn0, hn1, HN⟩ := hrel
    by_cases hlt : m < E.size
    · have HG := Lib.hid (toL_at hlt)
      by_cases hdg : 48 ≤ E[m].toNat ∧ E[m].toNat ≤ 57
      · have HE : Hid (digU E[m] = true) := by show _ = _; unfold digU; rw [decide_eq_true hdg.1, decide_eq_true hdg.2]; rfl
        obtain ⟨g1, g2⟩ := hdg
        have HX : Hid ((n * 10 + ((E[m].toNat : Int) - 48)) = numG ((toL E).take (m + 1)) 0 ∧ (n * 10 + ((E[m].toNat : Int) - 48)) < 10 ^ (m + 1) ∧ ((toL E).take (m + 1)).all digU = true) := by
          obtain ⟨a1, a2, a3⟩ := HN.out
          refine ⟨?_, ?_, ?_⟩
          · rw [HG.out, numG_snoc, ← a1, Int.mul_comm]
          · rw [Int.pow_succ]; omega
          · rw [HG.out, List.all_append, a3]; simp [HE.out]
        have HX2 : Hid ((n * 10 + ((E[m].toNat : Int) - 48)) ≤ 999999999) := by
          have a2 := HX.out.2.1
          have a4 : (10 : Int) ^ (m + 1) ≤ 10 ^ 9 := by
            have : (10 : Nat) ^ (m + 1) ≤ 10 ^ 9 := Nat.pow_le_pow_right (by omega) (by omega)
            exact_mod_cast this
          have a5 : (10 : Int) ^ 9 = 1000000000 := by decide
          show _ ≤ _
          omega
        go_wp2_with fail
        go_round
        case rel => exact ⟨m + 1, _, by omega, by go_num, rfl, by omega, HX2.out, HX⟩
        case measure => simp [intOf]; omega
      · have HB : Hid (r = (0, 0, false)) := HFAIL2.out (by
          rw [List.all_eq_false]
          refine ⟨E[m], mem_toL hlt, ?_⟩
          unfold digU
          simp
          omega)
        by_cases g1 : 48 ≤ E[m].toNat
        · have g2 : 57 < E[m].toNat := by omega
          clear hdg
          go_wp2_with fail
          go_ret3
          exact ⟨HRET.out _ _ _ HB.out, rfl⟩
        · have g2 : E[m].toNat < 48 := by omega
          clear hdg
          go_wp2_with fail
          go_ret3
          exact ⟨HRET.out _ _ _ HB.out, rfl⟩
    · obtain rfl : m = E.size := by omega
      have HB : Hid (r = (K, n, true)) := by
        obtain ⟨a1, a2, a3⟩ := HN.out
        rw [← toL_len, List.take_length] at a1 a3
        show _ = _
        rw [HFINE.out a3, ← a1]
      go_wp2_with fail
      go_ret3
      exact ⟨HRET.out _ _ _ HB.out, rfl⟩
end Go.Proofs.YthabojhnliomnaaGreatDoor

namespace Go.Proofs.YthabojhnliomnaaGreatDoor
open Go.RowKit
set_option linter.unusedVariables false

theorem wPro_free : (32 : UInt8) ∉ wPro := by decide
theorem begP_yes {l : List UInt8} : begP l = true ↔ l = wPro ∨ ∃ t, l = wPro ++ 32 :: t := by
  unfold begP
  constructor
  · intro h
    rcases spl_cases 32 l with ⟨h1, h2⟩ | ⟨a, t, h1, ha, h2⟩
    · rw [h2] at h
      exact Or.inl (by simpa using h)
    · rw [h2] at h
      have h3 : a = wPro := by simpa using h
      subst h3
      exact Or.inr ⟨t, h1⟩
  · rintro (rfl | ⟨t, rfl⟩)
    · rw [spl_free wPro_free]; simp
    · rw [spl_mid wPro_free]; simp
/-- The reference's test. -/
def begQ (l : List UInt8) : Bool := decide (8 ≤ l.length) && (l.take 8 == wPro) && (decide (l.length = 8) || (l[8]? == some 32))
theorem begQ_eq (l : List UInt8) : begQ l = begP l := by
  rw [Bool.eq_iff_iff, begP_yes]
  unfold begQ
  constructor
  · intro h
    rw [Bool.and_eq_true, Bool.and_eq_true, Bool.or_eq_true] at h
    obtain ⟨⟨h1, h2⟩, h3⟩ := h
    have h1 : 8 ≤ l.length := by simpa using h1
    have h2 : l.take 8 = wPro := by simpa using h2
    have h4 := List.take_append_drop 8 l
    rw [h2] at h4
    rcases h3 with h3 | h3
    · have h3 : l.length = 8 := by simpa using h3
      left
      rw [← h4, List.drop_eq_nil_of_le (by omega)]
      simp
    · have h3 : l[8]? = some 32 := by simpa using h3
      right
      obtain ⟨h5, h6⟩ := List.getElem?_eq_some_iff.1 h3
      refine ⟨l.drop 9, ?_⟩
      conv => lhs; rw [← h4, List.drop_eq_getElem_cons h5, h6]
  · rintro (rfl | ⟨t, rfl⟩)
    · decide
    · have h1 : (wPro ++ 32 :: t).length = 9 + t.length := by rw [List.length_append]; simp [wPro]; omega
      have h2 : (wPro ++ 32 :: t).take 8 = wPro := by rw [List.take_append_of_le_length (by decide)]; rfl
      have h3 : (wPro ++ 32 :: t)[8]? = some 32 := by rw [List.getElem?_append_right (by decide)]; rfl
      rw [h2, h3, h1]
      simp
      omega
theorem stepR_open {r : Rd} {x : List UInt8} (h : (stepR r (wds 32 (bsOf x))).2 = 0) (hx : x ≠ wE) (hr : r.stage ≠ 5) : (stepR r (wds 32 (bsOf x))).1.stage ≠ 5 := by
  intro h5
  unfold stepR at h h5
  split at h5
  · split at h5
    · simp at h5
    · exact hr h5
  · split at h5
    · simp at h5
    · exact hr h5
  · split at h5
    · split at h5 <;> simp at h5
    · exact hr h5
  · split at h5
    · split at h5 <;> simp at h5
    · exact hr h5
  · split at h5
    · rename_i hc
      obtain ⟨h1, h2⟩ := hc
      have h3 : (spl 32 x).length = 1 := by
        have : (wds 32 (bsOf x)).length = (spl 32 x).length := by unfold wds; rw [List.length_map]; rfl
        omega
      obtain ⟨y, hy⟩ : ∃ y, spl 32 x = [y] := by
        match hq : spl 32 x, h3 with
        | [y], _ => exact ⟨y, rfl⟩
      have h4 := (cut_last hy).1
      have h6 : wds 32 (bsOf x) = [bsOf y] := by
        unfold wds
        rw [toL_bsOf, hy]
        rfl
      rw [h6] at h1
      exact hx (by rw [← h4]; exact h1)
    · split at h5
      · split at h5
        · exact hr h5
        · exact hr h5
      · exact hr h5
  · exact hr h5
theorem ptcGo_open : ∀ (ls : List (List UInt8)) (i : Nat) (r : Rd), r.stage ≠ 5 → (∀ x ∈ ls.dropLast, x ≠ wE) → (ptcGo i r ls).2.2 ≠ 0
  | [], i, r, _, _ => by unfold ptcGo; simp
  | [x], i, r, h, _ => by
    unfold ptcGo
    rw [if_pos h]
    simp
  | x :: y :: t, i, r, h, hl => by
    unfold ptcGo
    split
    · simp
    split
    · assumption
    · rename_i h1
      have h2 : (stepR r (wds 32 (bsOf x))).2 = 0 := Classical.byContradiction h1
      exact ptcGo_open (y :: t) (i + 1) _ (stepR_open h2 (hl x (by simp)) h) (fun z hz => hl z (by rw [List.dropLast_cons_of_ne_nil (by simp)]; exact List.mem_cons_of_mem _ hz))
theorem ptcP_open {ls : List (List UInt8)} (h : endAt ls = none) : (ptcP ls).2.2 ≠ 0 := by
  refine ptcGo_open ls 1 rd0 (by simp [rd0]) (fun x hx e => ?_)
  have := List.findIdx?_eq_none_iff.1 h x hx
  simp [e] at this
end Go.Proofs.YthabojhnliomnaaGreatDoor

namespace Go.Proofs.YthabojhnliomnaaGreatDoor
open Go.RowKit Go.Deep
set_option linter.unusedVariables false

/-- A row of strings: its cells. -/
structure WRow (W : World) (bw : Nat) (ws : List ByteArray) : Prop where
  lt : bw < W.heap.size
  cell : ∀ i (h : i < ws.length), W.cell? ⟨bw, i, none⟩ = some (.string ws[i])
theorem cell_of_block {W W' : World} {b : Nat} (h : W'.heap[b]? = W.heap[b]?) (i : Nat) : W'.cell? ⟨b, i, none⟩ = W.cell? ⟨b, i, none⟩ := by
  unfold World.cell?
  simp only [h]
theorem WRow.to {W W' : World} {bw : Nat} {ws : List ByteArray} (h : WRow W bw ws) (hh : W'.heap[bw]? = W.heap[bw]?) : WRow W' bw ws := by
  refine ⟨?_, fun i hi => (cell_of_block hh i).trans (h.cell i hi)⟩
  have h1 := Array.getElem?_eq_getElem h.lt
  rw [← hh] at h1
  exact (Array.getElem?_eq_some_iff.1 h1).1
theorem WRow.mono {W W' : World} {bw : Nat} {ws : List ByteArray} (h : WRow W bw ws) (hb : Below W.heap.size W W') : WRow W' bw ws := h.to (hb.block bw h.lt)
theorem WRow.grown {W W' : World} {bw : Nat} {ws : List ByteArray} {row : Option Nat} (h : WRow W bw ws) (hg : W.grownBy W' row) (hne : some bw ≠ row) : WRow W' bw ws := h.to (hg.block bw h.lt hne)
theorem WRow.of_own {W : World} {base : Nat} {v : Value} {ws : List ByteArray} (h : Own cellsStr 1 base 9 W v ws) (h0 : 0 < ws.length) : ∃ bw cap, v = .slice (some ⟨bw, 0, none⟩) ws.length cap ∧ base ≤ bw ∧ WRow W bw ws := by
  have h' := h
  obtain ⟨A, c, rfl, hc, hs⟩ := StrsV.of_own h
  obtain ⟨b, o, rfl, hb, d0⟩ := hs.str_at h0
  have hlt := (World.ownsRow.lt h' b rfl).1
  have ho : o = 0 := by
    rcases h'.2 with ⟨h1, _⟩ | ⟨g, cap, cur, h1, _⟩
    · injection h1 with h1; cases h1
    · injection h1 with h1
      injection h1 with h1
      injection h1 with _ h1
  subst ho
  refine ⟨b, c, rfl, hlt, hb, fun i hi => ?_⟩
  obtain ⟨b', o', e, hb', d⟩ := hs.str_at hi
  injection e with e
  injection e with e1 e2
  subst e1 e2
  simpa using d
/-- While the fields are read. -/
structure InPf (w : World) (b bw : Nat) (ws : List ByteArray) (base : Nat) (rt n : Int) (st : Bool) (fs : List ByteArray) (wr : World) : Prop where
  br : Box wr b [.int .i64 0, .int .i64 0, .slice none 0 0, .bool false] 49
  bp : ∃ A m c, Box wr (b + 1) [.int .i64 rt, .int .i64 n, .slice A m c, .bool st] 49 ∧ Own cellsStr 1 base 9 wr (.slice A m c) fs
  bw : WRow wr bw ws
  bel : Below w.heap.size w wr
/-- One field more. -/
theorem InPf.push {w wr : World} {b bw base : Nat} {ws fs : List ByteArray} {rt n : Int} {st : Bool} (h : InPf w b bw ws base rt n st fs wr) (hb : w.heap.size ≤ b) (h1 : b + 1 < base) (h2 : bw < base) (h3 : base ≤ wr.heap.size) (h4 : bw ≠ b + 1) (hl : fs.length ≤ 100000) (x : ByteArray) :
    ∃ A m c, Box wr (b + 1) [.int .i64 rt, .int .i64 n, .slice A m c, .bool st] 49 ∧ ∃ v' w', (Builtin.append_ #[38, 38] 38 #[.slice A m c, .slice (some ⟨wr.heap.size, 0, none⟩) 1 1]).run Tryz.prog (wr.alloc (.cells #[.string x] 9)) = .ok v' w' ∧
      Box w' (b + 1) [.int .i64 rt, .int .i64 n, .slice A m c, .bool st] 49 ∧ (∃ B q d, v' = .slice B q d) ∧ InPf w b bw ws base rt n st (fs ++ [x]) (w'.setCell ⟨b + 1, 2, none⟩ v') ∧ base ≤ (w'.setCell ⟨b + 1, 2, none⟩ v').heap.size := by
  obtain ⟨A, m, c, hbp, hown⟩ := h.bp
  have hb1 : Below wr.heap.size wr (wr.alloc (.cells #[.string x] 9)) := (by repeat (first | assumption | exact Below.refl _ _ | apply bw_alloc | apply bw_drew | apply bw_drewN | apply bw_later | apply bw_step))
  have hz1 : wr.heap.size ≤ (wr.alloc (.cells #[.string x] 9)).heap.size := by simp
  obtain ⟨v', w', hrun, ho', hb', hg', hz'⟩ := run_push strsTy cellsStr_ok 38 (hown.mono hb1) x wr.heap.size 1 (cells_one_new _ _ _) (by unfold maxLen; omega) (by omega) (by omega)
  have hbp1 := (hbp.mono hb1).grown hg' ((hown.mono hb1).ne_lt h1)
  have hbr1 := (h.br.mono hb1).grown hg' ((hown.mono hb1).ne_lt (by omega))
  have hbw1 := (h.bw.mono hb1).grown hg' ((hown.mono hb1).ne_lt h2)
  have hbel1 : Below w.heap.size w w' := (below_step h.bel hb1).grown hg' (below_step h.bel hb1).size (fun k hk => by have := (World.ownsRow.lt (hown.mono hb1) k hk).1; omega)
  obtain ⟨A', n', c', rfl⟩ := ho'.isSl
  have hgs := grown_set w' (b + 1) 2 (.slice A' n' c')
  refine ⟨A, m, c, hbp, _, w', hrun, hbp1, ⟨_, _, _, rfl⟩, ⟨hbr1.setOther (by simp) _, ⟨A', n', c', hbp1.set 2 _, ?_⟩, ?_, hbel1.setCell (by simp; omega) _⟩, ?_⟩
  · exact ho'.kept hgs (fun k hk hv => by injection hk with hk; have := (World.ownsRow.lt ho' k hv).1; omega)
  · exact hbw1.grown hgs (fun e => h4 (Option.some.inj e))
  · simp; omega
theorem InPf.mono {w wr w' : World} {b bw base : Nat} {ws fs : List ByteArray} {rt n : Int} {st : Bool} (h : InPf w b bw ws base rt n st fs wr) (hb : Below wr.heap.size wr w') : InPf w b bw ws base rt n st fs w' := by
  obtain ⟨A, m, c, h1, h2⟩ := h.bp
  exact ⟨h.br.mono hb, ⟨A, m, c, h1.mono hb, h2.mono hb⟩, h.bw.mono hb, below_step h.bel hb⟩
/-- The star at the end. -/
theorem star_none {s : ByteArray} (h : ¬ 0 < s.size) : acpStar (toL s) = false ∧ bsOf (acpBody (toL s)) = s := by
  have h1 : toL s = [] := List.length_eq_zero_iff.1 (by rw [toL_len]; omega)
  rw [h1]
  refine ⟨by decide, ?_⟩
  rw [show acpBody [] = [] from by decide, ← h1, bs_back]
theorem toL_last {s : ByteArray} (h : 0 < s.size) : toL s = toL (s.extract 0 (s.size - 1)) ++ [s[s.size - 1]] := by
  have h1 := extract_snoc (s := s) (a := 0) (b := s.size - 1) (by omega) (by omega)
  rw [show s.size - 1 + 1 = s.size from by omega] at h1
  rw [← h1]
  show _ = toL (s.extract 0 s.size)
  rw [toL_extract, List.drop_zero, List.take_of_length_le (by rw [toL_len]; exact Nat.le_refl _)]
theorem star_yes {s : ByteArray} (h : 0 < s.size) (h2 : s[s.size - 1] = 42) : acpStar (toL s) = true ∧ bsOf (acpBody (toL s)) = s.extract 0 (s.size - 1) := by
  have h3 := toL_last h
  rw [h2] at h3
  have h4 : acpStar (toL s) = true := by
    unfold acpStar Lib.hasSuffix
    rw [h3, List.isSuffixOf_iff_suffix]
    exact ⟨_, rfl⟩
  refine ⟨h4, ?_⟩
  have h5 := star_back (toL s)
  rw [h4, if_pos rfl] at h5
  conv at h5 => rhs; rw [h3]
  rw [List.append_cancel_right h5, bs_back]
theorem star_no {s : ByteArray} (h : 0 < s.size) (h2 : ¬ s[s.size - 1] = 42) : acpStar (toL s) = false ∧ bsOf (acpBody (toL s)) = s := by
  have h3 := toL_last h
  have h4 : acpStar (toL s) = false := by
    cases hq : acpStar (toL s) with
    | false => rfl
    | true =>
      have h5 := star_back (toL s)
      rw [hq, if_pos rfl] at h5
      rw [h3] at h5
      have := (List.append_inj' h5 rfl).2
      simp at this
      exact absurd this.symm h2
  refine ⟨h4, ?_⟩
  have h5 := star_back (toL s)
  rw [h4] at h5
  simp at h5
  rw [h5, bs_back]
set_option maxRecDepth 100000 in
set_option maxHeartbeats 8000000 in
theorem refAcpParse_any (s : ByteArray) (w : World) (hs : s.size ≤ 65536) :
    Calls Tryz.prog 96 #[.string s] w fun e w' => RetAcp w.heap.size (acpP (toL s)) w' e ∧ Below w.heap.size w w' := by
  obtain ⟨R, HR⟩ : ∃ R, Hid (R = acpP (toL s)) := ⟨_, Lib.hid rfl⟩
  rw [← HR.out]
  obtain ⟨Bd, HBd, hBd⟩ : ∃ Bd : ByteArray, Hid (Bd = bsOf (acpBody (toL s))) ∧ Bd.size ≤ 65536 := ⟨_, Lib.hid rfl, by
    have := acpBody_len (toL s)
    rw [toL_len] at this
    rw [bsOf_size]
    omega⟩
  obtain ⟨st, HSt⟩ : ∃ st : Bool, Hid (st = acpStar (toL s)) := ⟨_, Lib.hid rfl⟩
  obtain ⟨ws, HWs⟩ : ∃ ws : List ByteArray, Hid (ws = wds 46 Bd) := ⟨_, Lib.hid rfl⟩
  have HSP := Lib.hid (fun W => refDots_any Bd W (by omega))
  have hwp := wds_pos 46 Bd
  have hwl := wds_len 46 Bd
  have HWZ : Hid (∀ x ∈ ws, x.size ≤ 65536) := fun x hx => by rw [HWs.out] at hx; have := wds_size hx; omega
  rw [← HWs.out] at HSP hwp hwl
  obtain ⟨w0, fs, hws⟩ : ∃ w0 fs, ws = w0 :: fs := by
    cases ws with
    | nil => simp at hwp
    | cons a b => exact ⟨a, b, rfl⟩
  have hwe : acpWs (toL s) = w0 :: fs := by unfold acpWs; rw [← HBd.out, ← HWs.out, hws]
  obtain ⟨rt, n, okb, HRT⟩ : ∃ (rt n : Int) (okb : Bool), Hid ((rt, n, okb) = rootP (toL w0)) := ⟨_, _, _, Lib.hid rfl⟩
  have hrte : acpRt (toL s) = (rt, n, okb) := by unfold acpRt; rw [hwe, HRT.out]; rfl
  have HR2 : Hid (R = if okb = false then (zAcp, 2) else if fs.any badF then (zAcp, 2) else if acpE ⟨rt, n, fs, st⟩ ≠ 0 then (zAcp, acpE ⟨rt, n, fs, st⟩) else (⟨rt, n, fs, st⟩, 0)) := by
    show _ = _
    rw [HR.out]
    unfold acpP acpOf
    rw [hrte, hwe, ← HSt.out]
    rfl
  have h0z : w0.size ≤ 65536 := HWZ.out w0 (by rw [hws]; simp)
  have HFS : Hid (∀ x ∈ fs, x.size ≤ 65536) := fun x hx => HWZ.out x (by rw [hws]; simp [hx])
  have hfl : fs.length ≤ 65536 := by rw [hws] at hwl; simp at hwl; omega
  have HPR : Hid (∀ W, Calls Tryz.prog 140 #[.string w0] W fun e w' => e = .returned (.tuple #[.int .i64 rt, .int .i64 n, .bool okb]) ∧ W = w') := fun W => by
    have h := refRoot_any w0 W (by omega)
    rw [← HRT.out] at h
    exact h
  subst hws
  clear HR HWs HWZ hwe hrte HRT hwp hwl
  go_enter Tryz.func96, Tryz.ntmps96
  go_upto_region 4 with fail
  have br1 : Box ((w.alloc (.cells #[.int .i64 0, .int .i64 0, .slice none 0 0, .bool false] 49)).alloc (.cells #[.int .i64 0, .int .i64 0, .slice none 0 0, .bool false] 49)) w.heap.size [.int .i64 0, .int .i64 0, .slice none 0 0, .bool false] 49 := (by repeat (first | (refine Box.at ?_; (simp; done)) | apply Box.drew | apply Box.alloc | assumption))
  have bp1 : Box ((w.alloc (.cells #[.int .i64 0, .int .i64 0, .slice none 0 0, .bool false] 49)).alloc (.cells #[.int .i64 0, .int .i64 0, .slice none 0 0, .bool false] 49)) (w.heap.size + 1) [.int .i64 0, .int .i64 0, .slice none 0 0, .bool false] 49 := (by repeat (first | (refine Box.at ?_; (simp; done)) | apply Box.drew | apply Box.alloc | assumption))
  have bl1 : Below w.heap.size w ((w.alloc (.cells #[.int .i64 0, .int .i64 0, .slice none 0 0, .bool false] 49)).alloc (.cells #[.int .i64 0, .int .i64 0, .slice none 0 0, .bool false] 49)) := (by repeat (first | assumption | exact Below.refl _ _ | apply bw_alloc | apply bw_drew | apply bw_drewN | apply bw_later | apply bw_step))
  generalize World.alloc (World.alloc w _) _ = w1 at *
  go_cut [26] (fun c wx => c = .bool st ∧ wx = w1)
  case first =>
    by_cases h0 : 0 < s.size
    · have tl : ¬ ((s.size : Int) - 1 < 0) := by omega
      by_cases hz : s[s.size - 1].toNat = 42
      · have HB : Hid (st = true) := by show _ = _; rw [HSt.out]; exact (star_yes h0 (u8_of hz rfl)).1
        have tz : ((s[s.size - 1].toNat : Int) == 42) = true := byteEq hz
        clear hz
        go_wp2_with fail
        go_meet
        exact ⟨by rw [HB.out], rfl⟩
      · have HB : Hid (st = false) := by show _ = _; rw [HSt.out]; exact (star_no h0 (u8_ne hz rfl)).1
        have tz : ((s[s.size - 1].toNat : Int) == 42) = false := byteNe hz
        clear hz
        go_wp2_with fail
        go_meet
        exact ⟨by rw [HB.out], rfl⟩
    · have HB : Hid (st = false) := by show _ = _; rw [HSt.out]; exact (star_none h0).1
      go_wp2_with fail
      go_meet
      exact ⟨by rw [HB.out], rfl⟩
  case rest =>
  obtain ⟨rfl, rfl⟩ := hcut
  have HBD : Hid ((st = true → 0 < s.size ∧ Bd = s.extract 0 (s.size - 1)) ∧ (st = false → Bd = s)) := by
    by_cases h0 : 0 < s.size
    · by_cases hz : s[s.size - 1] = 42
      · obtain ⟨k1, k2⟩ := star_yes h0 hz
        exact ⟨fun _ => ⟨h0, by rw [HBd.out, k2]⟩, fun h => (by rw [HSt.out, k1] at h; cases h)⟩
      · obtain ⟨k1, k2⟩ := star_no h0 hz
        exact ⟨fun h => (by rw [HSt.out, k1] at h; cases h), fun _ => by rw [HBd.out, k2]⟩
    · obtain ⟨k1, k2⟩ := star_none h0
      exact ⟨fun h => (by rw [HSt.out, k1] at h; cases h), fun _ => by rw [HBd.out, k2]⟩
  clear HBd HSt
  go_upto_if 26 with fail
  go_cut [0] (fun v0 wx => v0 = .string Bd ∧ Box wx w.heap.size [.int .i64 0, .int .i64 0, .slice none 0 0, .bool false] 49 ∧ Box wx (w.heap.size + 1) [.int .i64 0, .int .i64 0, .slice none 0 0, .bool st] 49 ∧ Below w.heap.size w wx)
  case first =>
    cases st with
    | true =>
      obtain ⟨h0, hB⟩ := HBD.out.1 rfl
      have HB := Lib.hid hB
      clear hB
      have p3 := bp1.cell 3 rfl
      have pf := fun i => bp1.free i
      have pl := bp1.lt
      go_wp2_with fail
      go_meet
      exact ⟨by rw [HB.out], br1.setOther (by simp) _, bp1.set 3 (.bool true), bl1.setCell (by simp) _⟩
    | false =>
      have HB := Lib.hid (HBD.out.2 rfl)
      go_wp2_with fail
      go_meet
      exact ⟨by rw [HB.out], br1, bp1, bl1⟩
  case rest =>
  clear br1 bp1 bl1 HBD
  obtain ⟨rfl, br1, bp1, bl1⟩ := hcut
  go_wp2_with fail
  refine (HSP.out _).mono ?_
  rintro e w3 ⟨⟨vw, rfl, hownw⟩, hb3⟩
  obtain ⟨bw, cw, rfl, hbwge, hrow3⟩ := WRow.of_own hownw (by simp)
  have hbw3 := below_step bl1 hb3
  have br3 := br1.mono hb3
  have bp3 := bp1.mono hb3
  have hbw2 : w.heap.size + 1 < bw := by have := bp1.lt; omega
  clear hownw hb3 bl1 br1 bp1 hbwge
  have hbl3 := hrow3.lt
  have d0 := hrow3.cell 0 (by simp)
  simp only [List.getElem_cons_zero, List.length_cons] at d0 ⊢
  go_wp2_with fail
  refine (HPR.out _).mono ?_
  rintro e w4 ⟨rfl, rfl⟩
  have p0 := bp3.cell 0 rfl
  have p1 := bp3.cell 1 rfl
  have p2 := bp3.cell 2 rfl
  have p3 := bp3.cell 3 rfl
  have pf := fun i => bp3.free i
  have pl := bp3.lt
  cases hok : okb with
  | false =>
    have HB : Hid (R = (zAcp, 2)) := by show _ = _; rw [HR2.out, if_pos hok]
    clear hok
    have q0 := br3.cell 0 rfl
    have q1 := br3.cell 1 rfl
    have q2 := br3.cell 2 rfl
    have q3 := br3.cell 3 rfl
    have qf := fun i => br3.free i
    have ql := br3.lt
    obtain ⟨hbz, hgz⟩ := br3.store4 (.int .i64 0) (.int .i64 0) (.slice none 0 0) (.bool false)
    have hbwz := hbw3.grown hgz hbw3.size (fun k hk => by injection hk with hk; omega)
    have y0 := hbz.cell 0 rfl
    have y1 := hbz.cell 1 rfl
    have y2 := hbz.cell 2 rfl
    have y3 := hbz.cell 3 rfl
    go_wp2_with fail
    refine bodyPost_ret (v := .tuple #[.agg #[.int .i64 0, .int .i64 0, .slice none 0 0, .bool false], .int .i64 2]) (by simp [results, Tryz.results96, go_sem, y0, y1, y2, y3]) rfl ⟨?_, hbwz⟩
    rw [HB.out]
    exact retAcp_bad
  | true =>
    have HR3 : Hid (R = if fs.any badF then (zAcp, 2) else if acpE ⟨rt, n, fs, st⟩ ≠ 0 then (zAcp, acpE ⟨rt, n, fs, st⟩) else (⟨rt, n, fs, st⟩, 0)) := by show _ = _; rw [HR2.out, if_neg (by rw [hok]; simp)]
    clear HR2 hok
    have bp5 := (bp3.set 0 (.int .i64 rt)).set 1 (.int .i64 n)
    have hg5 := grown_trans (grown_set w3 (w.heap.size + 1) 0 (.int .i64 rt)) (grown_set (w3.setCell ⟨w.heap.size + 1, 0, none⟩ (.int .i64 rt)) (w.heap.size + 1) 1 (.int .i64 n))
    have br5 := br3.grown hg5 (by simp)
    have hrow5 := hrow3.grown hg5 (fun e => by have := Option.some.inj e; omega)
    have hbw5 := hbw3.grown hg5 hbw3.size (fun k hk => by injection hk with hk; omega)
    have hin1 : InPf w w.heap.size bw (w0 :: fs) (bw + 1) rt n st (fs.take 0) ((w3.setCell ⟨w.heap.size + 1, 0, none⟩ (.int .i64 rt)).setCell ⟨w.heap.size + 1, 1, none⟩ (.int .i64 n)) := ⟨br5, ⟨none, 0, 0, bp5, Own.nil⟩, hrow5, hbw5⟩
    have hz5 : bw + 1 ≤ ((w3.setCell ⟨w.heap.size + 1, 0, none⟩ (.int .i64 rt)).setCell ⟨w.heap.size + 1, 1, none⟩ (.int .i64 n)).heap.size := by simp; omega
    clear br5 bp5 hrow5 hbw5 hg5
    go_upto_region 13 with fail
    generalize World.setCell (World.setCell w3 _ _) _ _ = w5 at *
    clear p0 p1 p2 p3 pf pl br3 bp3 hrow3 hbw3 hbl3 d0
    go_wp2_with fail
    go_loopw [9] (fun i wr => ∃ k : Nat, k ≤ fs.length ∧ i = .int .i64 (1 + k : Nat) ∧ InPf w w.heap.size bw (w0 :: fs) (bw + 1) rt n st (fs.take k) wr ∧ bw + 1 ≤ wr.heap.size ∧ Hid (∀ i (h : i < fs.length), i < k → badF fs[i] = false)) (fun i _ => fs.length + 1 - (intOf i).toNat)
    case atStart => exact ⟨0, Nat.zero_le _, rfl, hin1, hz5, fun _ _ h => by omega⟩
    case round =>
      clear hin1 hz5
      obtain ⟨k, hk, rfl, hin, hz, HG0⟩ := hrel
      by_cases hlt : k < fs.length
      · have dk : wr.cell? ⟨bw, 1 + k, none⟩ = some (.string fs[k]) := by
          have := hin.bw.cell (1 + k) (by rw [List.length_cons]; omega)
          simpa [Nat.add_comm 1 k] using this
        have dl := hin.bw.lt
        have hfz := HFS.out fs[k] (List.getElem_mem hlt)
        cases he : fs[k].toList.isEmpty with
        | true =>
          have HB : Hid (R = (zAcp, 2)) := by
            show _ = _
            rw [HR3.out, if_pos]
            rw [List.any_eq_true]
            exact ⟨fs[k], List.getElem_mem hlt, by unfold badF; rw [he]; simp⟩
          have br5 := hin.br
          have hbw5 := hin.bel
          have q0 := br5.cell 0 rfl
          have q1 := br5.cell 1 rfl
          have q2 := br5.cell 2 rfl
          have q3 := br5.cell 3 rfl
          have qf := fun i => br5.free i
          have ql := br5.lt
          obtain ⟨hbz, hgz⟩ := br5.store4 (.int .i64 0) (.int .i64 0) (.slice none 0 0) (.bool false)
          have hbwz := hbw5.grown hgz hbw5.size (fun k hk => by injection hk with hk; omega)
          have y0 := hbz.cell 0 rfl
          have y1 := hbz.cell 1 rfl
          have y2 := hbz.cell 2 rfl
          have y3 := hbz.cell 3 rfl
          go_wp2_with fail
          refine bodyPost_ret (v := .tuple #[.agg #[.int .i64 0, .int .i64 0, .slice none 0 0, .bool false], .int .i64 2]) (by simp [results, Tryz.results96, go_sem, y0, y1, y2, y3]) rfl ⟨?_, hbwz⟩
          rw [HB.out]
          exact retAcp_bad
        | false =>
          have he2 : fs[k].toList ≠ [] := fun h => by rw [h] at he; simp at he
          go_wp2_with fail
          go_loop [10] (fun i => ∃ j : Nat, j ≤ fs[k].size ∧ i = .int .i64 j ∧ Hid (∀ t (h : t < fs[k].size), t < j → fs[k][t] ≠ 42)) (fun i => fs[k].size - (intOf i).toNat)
          case atStart => exact ⟨0, Nat.zero_le _, rfl, fun _ _ h => by omega⟩
          case round =>
            obtain ⟨j, hj, rfl, HNS⟩ := hrel
            by_cases hjl : j < fs[k].size
            · by_cases hst : fs[k][j].toNat = 42
              · have HB : Hid (R = (zAcp, 2)) := by
                  show _ = _
                  rw [HR3.out, if_pos]
                  rw [List.any_eq_true]
                  refine ⟨fs[k], List.getElem_mem hlt, ?_⟩
                  have : (42 : UInt8) ∈ toL fs[k] := by
                    rw [← u8_of (c := 42) hst rfl]
                    exact mem_toL hjl
                  unfold badF; rw [decide_eq_true this]; simp
                have tz : ((fs[k][j].toNat : Int) == 42) = true := byteEq hst
                clear hst
                have br5 := hin.br
                have hbw5 := hin.bel
                have q0 := br5.cell 0 rfl
                have q1 := br5.cell 1 rfl
                have q2 := br5.cell 2 rfl
                have q3 := br5.cell 3 rfl
                have qf := fun i => br5.free i
                have ql := br5.lt
                obtain ⟨hbz, hgz⟩ := br5.store4 (.int .i64 0) (.int .i64 0) (.slice none 0 0) (.bool false)
                have hbwz := hbw5.grown hgz hbw5.size (fun k hk => by injection hk with hk; omega)
                have y0 := hbz.cell 0 rfl
                have y1 := hbz.cell 1 rfl
                have y2 := hbz.cell 2 rfl
                have y3 := hbz.cell 3 rfl
                go_wp2_with fail
                refine bodyPost_ret (v := .tuple #[.agg #[.int .i64 0, .int .i64 0, .slice none 0 0, .bool false], .int .i64 2]) (by simp [results, Tryz.results96, go_sem, y0, y1, y2, y3]) rfl ⟨?_, hbwz⟩
                rw [HB.out]
                exact retAcp_bad
              · have HN : Hid (∀ t (h : t < fs[k].size), t < j + 1 → fs[k][t] ≠ 42) := fun t h ht => by
                  by_cases e : t = j
                  · subst e; exact u8_ne hst rfl
                  · exact HNS.out t h (by omega)
                have tz : ((fs[k][j].toNat : Int) == 42) = false := byteNe hst
                clear hst
                go_wp2_with fail
                go_round
                case rel => exact ⟨j + 1, by omega, by go_num, HN⟩
                case measure => simp [intOf]; omega
            · have HG1 : Hid (∀ i (h : i < fs.length), i < k + 1 → badF fs[i] = false) := fun i h hi => by
                by_cases e : i = k
                · subst e
                  unfold badF
                  rw [he, decide_eq_false]
                  · rfl
                  · intro hm
                    obtain ⟨t, ht, e⟩ := List.getElem_of_mem hm
                    rw [toL_len] at ht
                    exact HNS.out t ht (by omega) e
                · exact HG0.out i h (by omega)
              clear HNS
              have hind := hin.mono (bw_drew (Below.refl _ _))
              have hzd : bw + 1 ≤ wr.drew.heap.size := hz
              obtain ⟨A, m, c, hbp, v', w', hrun, hbp1, ⟨B, q, d, rfl⟩, hin', hz'⟩ := hind.push (Nat.le_refl _) (by omega) (by omega) hzd (by omega) (by rw [List.length_take]; omega) fs[k]
              rw [← List.take_succ_eq_append_getElem hlt] at hin'
              have p2 : wr.cell? ⟨w.heap.size + 1, 2, none⟩ = some (.slice A m c) := hbp.cell 2 rfl
              have pl : w.heap.size + 1 < wr.heap.size := hbp.lt
              have x2 := hbp1.cell 2 rfl
              have xf := fun i => hbp1.free i
              have xl := hbp1.lt
              have g1 : ¬ (1 + (k : Int) < 0) := by omega
              have g2 : 1 + (k : Int) < (fs.length : Int) + 1 := by omega
              have g3 : (1 + (k : Int)).toNat = 1 + k := by omega
              have g5 : (0 : Int) ≤ 1 + (k : Int) := by omega
              go_upto_region 23 with fail
              go_region_law (refine step_appendRun rfl (.tmp 80) (.tmp 85) 38 rfl (by simp [Act.eval]) (by simp [Act.eval]) hrun ?_)
              all_goals
                go_wp2_with fail
                go_roundw
                case rel => exact ⟨k + 1, by omega, by go_num, hin', hz', HG1⟩
                case measure => simp [intOf]; omega
      · obtain rfl : k = fs.length := by omega
        rw [List.take_length] at hin
        have HGOOD : Hid (∀ i (h : i < fs.length), badF fs[i] = false) := fun i h => HG0.out i h h
        clear HG0 hlt
        obtain ⟨A, m, c, hbp, hown⟩ := hin.bp
        obtain ⟨A6, c6, hv6, hc6, hs6⟩ := StrsV.of_own hown
        injection hv6 with z1 z2 z3
        subst z1 z2 z3
        have hbw := hin.bel
        have p0 := hbp.cell 0 rfl
        have p1 := hbp.cell 1 rfl
        have p2 := hbp.cell 2 rfl
        have p3 := hbp.cell 3 rfl
        have pl := hbp.lt
        have HCK : Hid (∀ W, Below wr.heap.size wr W → Calls Tryz.prog 84 #[.agg #[.int .i64 rt, .int .i64 n, .slice A fs.length c, .bool st]] W fun e w' => e = .returned (.int .i64 (acpE ⟨rt, n, fs, st⟩)) ∧ Below W.heap.size W w') := fun W hW => refAcpCheck_any ⟨rt, n, fs, st⟩ A c W (by show fs.length ≤ _; omega) (hs6.mono hW) (Lib.hid (fun y hy => by have := HFS.out y hy; omega))
        have HANY : Hid (fs.any badF = false) := by
          show _ = _
          rw [List.any_eq_false]
          intro x hx
          obtain ⟨i, hi, rfl⟩ := List.getElem_of_mem hx
          rw [HGOOD.out i hi]
          simp
        have HBAD : Hid (acpE ⟨rt, n, fs, st⟩ ≠ 0 → R = (zAcp, acpE ⟨rt, n, fs, st⟩)) := fun h => by rw [HR3.out, HANY.out, if_neg (by simp), if_pos h]
        have HFINE : Hid (acpE ⟨rt, n, fs, st⟩ = 0 → R = (⟨rt, n, fs, st⟩, 0)) := fun h => by rw [HR3.out, HANY.out, if_neg (by simp), if_neg (by rw [h]; simp)]
        generalize acpE ⟨rt, n, fs, st⟩ = ae at *
        go_wp2_with fail
        refine (HCK.out _ (Below.refl _ _)).mono ?_
        rintro e w7 ⟨rfl, hb7⟩
        have hin7 := hin.mono hb7
        obtain ⟨A', m', c', hbp7', hown7'⟩ := hin7.bp
        clear p0 p1 p2 p3 pl hbp7' hown7' A' m' c'
        have hbp7 := hbp.mono hb7
        have hown7 := hown.mono hb7
        have hbr7 := hin7.br
        have hbw7 := hin7.bel
        have p0 := hbp7.cell 0 rfl
        have p1 := hbp7.cell 1 rfl
        have p2 := hbp7.cell 2 rfl
        have p3 := hbp7.cell 3 rfl
        have pl := hbp7.lt
        have q0 := hbr7.cell 0 rfl
        have q1 := hbr7.cell 1 rfl
        have q2 := hbr7.cell 2 rfl
        have q3 := hbr7.cell 3 rfl
        have qf := fun i => hbr7.free i
        have ql := hbr7.lt
        by_cases hae : ae = 0
        · have HB := Lib.hid (HFINE.out hae)
          subst hae
          obtain ⟨hbz, hgz⟩ := hbr7.store4 (.int .i64 rt) (.int .i64 n) (.slice A fs.length c) (.bool st)
          have hbwz := hbw7.grown hgz hbw7.size (fun k hk => by injection hk with hk; omega)
          have hownz := hown7.kept hgz (fun k hk hv => by injection hk with hk; have := (World.ownsRow.lt hown7 k hv).1; omega)
          have y0 := hbz.cell 0 rfl
          have y1 := hbz.cell 1 rfl
          have y2 := hbz.cell 2 rfl
          have y3 := hbz.cell 3 rfl
          go_wp2_with fail
          refine bodyPost_ret (v := .tuple #[.agg #[.int .i64 rt, .int .i64 n, .slice A fs.length c, .bool st], .int .i64 0]) (by simp [results, Tryz.results96, go_sem, y0, y1, y2, y3]) rfl ⟨?_, hbwz⟩
          rw [HB.out]
          exact ⟨A, fs.length, c, rfl, hownz.base_le' (by omega)⟩
        · have HB := Lib.hid (HBAD.out hae)
          have tq : (ae != 0) = true := by simpa using hae
          clear hae
          obtain ⟨hbz, hgz⟩ := hbr7.store4 (.int .i64 0) (.int .i64 0) (.slice none 0 0) (.bool false)
          have hbwz := hbw7.grown hgz hbw7.size (fun k hk => by injection hk with hk; omega)
          have y0 := hbz.cell 0 rfl
          have y1 := hbz.cell 1 rfl
          have y2 := hbz.cell 2 rfl
          have y3 := hbz.cell 3 rfl
          go_wp2_with fail
          refine bodyPost_ret (v := .tuple #[.agg #[.int .i64 0, .int .i64 0, .slice none 0 0, .bool false], .int .i64 ae]) (by simp [results, Tryz.results96, go_sem, y0, y1, y2, y3]) rfl ⟨?_, hbwz⟩
          rw [HB.out]
          exact retAcp_bad
end Go.Proofs.YthabojhnliomnaaGreatDoor

namespace Go.Proofs.YthabojhnliomnaaGreatDoor
open Go.RowKit Go.Deep
set_option linter.unusedVariables false

theorem at8 {s : ByteArray} (h : 8 < s.size) : (toL s)[8]? = some s[8] := by
  rw [List.getElem?_eq_getElem (by rw [toL_len]; exact h)]; rfl
theorem take8 (s : ByteArray) : ((s.extract 0 8).toList == [112, 114, 111, 116, 111, 99, 111, 108]) = ((toL s).take 8 == wPro) := by
  rw [ByteArray.toList_eq' (s.extract 0 8), toL_extract, List.drop_zero]; rfl
set_option maxRecDepth 100000 in
theorem refBegins_any (s : ByteArray) (w : World) (hs : s.size ≤ 70000) : Calls Tryz.prog 49 #[.string s] w fun e w' => e = .returned (.bool (begP (toL s))) ∧ w = w' := by
  obtain ⟨r, HR⟩ : ∃ r, Hid (r = begP (toL s)) := ⟨_, Lib.hid rfl⟩
  rw [← HR.out]
  have HR2 : Hid (r = (decide (8 ≤ s.size) && ((s.extract 0 8).toList == [112, 114, 111, 116, 111, 99, 111, 108]) && (decide (s.size = 8) || ((toL s)[8]? == some 32)))) := by
    show _ = _
    rw [HR.out, ← begQ_eq, begQ, toL_len, take8]
  clear HR
  by_cases h8 : 8 ≤ s.size
  · cases e1 : ((s.extract 0 8).toList == [112, 114, 111, 116, 111, 99, 111, 108]) with
    | false =>
      have HB : Hid (r = false) := by show _ = _; rw [HR2.out, e1]; simp
      go_enter Tryz.func49, Tryz.ntmps49
      go_wp2_with fail
      go_ret
      exact ⟨by rw [HB.out]; rfl, rfl⟩
    | true =>
      by_cases h9 : s.size = 8
      · have HB : Hid (r = true) := by show _ = _; rw [HR2.out, e1, decide_eq_true h8, decide_eq_true h9]; rfl
        have t9 : ((s.size : Int) == 8) = true := by rw [h9]; rfl
        clear h9
        go_enter Tryz.func49, Tryz.ntmps49
        go_wp2_with fail
        go_ret
        exact ⟨by rw [HB.out]; rfl, rfl⟩
      · have h10 : 8 < s.size := by omega
        have t9 : ((s.size : Int) == 8) = false := by rw [beq_eq_false_iff_ne]; omega
        have HX : Hid (r = (s[8] == 32)) := by
          show _ = _
          rw [HR2.out, e1, decide_eq_true h8, decide_eq_false h9, at8 h10]
          simp
        by_cases hz : s[8].toNat = 32
        · have HB : Hid (r = true) := by show _ = _; rw [HX.out, u8_of (c := 32) hz rfl]; rfl
          have tz : ((s[8].toNat : Int) == 32) = true := byteEq hz
          clear h9 hz
          go_enter Tryz.func49, Tryz.ntmps49
          go_wp2_with fail
          go_ret
          exact ⟨by rw [HB.out]; rfl, rfl⟩
        · have HB : Hid (r = false) := by show _ = _; rw [HX.out, beq_eq_false_iff_ne]; exact u8_ne hz rfl
          have tz : ((s[8].toNat : Int) == 32) = false := byteNe hz
          clear h9 hz
          go_enter Tryz.func49, Tryz.ntmps49
          go_wp2_with fail
          go_ret
          exact ⟨by rw [HB.out]; rfl, rfl⟩
  · have HB : Hid (r = false) := by show _ = _; rw [HR2.out, decide_eq_false h8]; simp
    go_enter Tryz.func49, Tryz.ntmps49
    go_wp2_with fail
    go_ret
    exact ⟨by rw [HB.out]; rfl, rfl⟩
/-- The pieces of a text whose lines and rest are these. -/
structure Pcs (lines : List ByteArray) (rest : ByteArray) (ls : List (List UInt8)) : Prop where
  eq : ls = lines.map toL ++ [toL rest]
  fr : ∀ x ∈ ls, (10 : UInt8) ∉ x
  sz : (glue 10 ls).length ≤ 65536
section
variable {lines : List ByteArray} {rest : ByteArray} {ls : List (List UInt8)}
theorem Pcs.len (h : Pcs lines rest ls) : ls.length = lines.length + 1 := by rw [h.eq]; simp
theorem Pcs.at (h : Pcs lines rest ls) {i : Nat} (hi : i < lines.length) : ls[i]? = some (toL lines[i]) := by
  rw [h.eq, List.getElem?_append_left (by simpa using hi)]
  simp [hi]
theorem Pcs.last (h : Pcs lines rest ls) : ls.drop lines.length = [toL rest] := by
  rw [h.eq, List.drop_append_of_le_length (by simp)]
  simp
theorem Pcs.cut (h : Pcs lines rest ls) {i k : Nat} (hk : i + k ≤ lines.length) : (lnT ((ls.drop i).take k)).length + (glue 10 (ls.drop (i + k))).length ≤ 65536 := by
  have h1 : ls = ls.take i ++ ((ls.drop i).take k ++ ls.drop (i + k)) := by
    rw [← List.drop_drop, List.take_append_drop, List.take_append_drop]
  have hne : ls.drop (i + k) ≠ [] := by
    intro e
    have := congrArg List.length e
    rw [List.length_drop, h.len] at this
    simp at this
    omega
  have h2 := h.sz
  rw [h1, glue_app (by simp [hne]), glue_app hne, List.length_append, List.length_append] at h2
  omega
end
def RetPt (D : List (List UInt8)) (i0 : Nat) (e : Ending) : Prop := ∃ (t : ByteArray) (nx : Int), e = .returned (.tuple #[.string t, .int .i64 nx]) ∧ spl 10 (toL t) = (partP D).1 ∧ t.size ≤ 65536 ∧ (endAt D ≠ none → nx = i0 + (partP D).2.1)
theorem lnT_snoc (l : List (List UInt8)) (x : List UInt8) : lnT (l ++ [x]) = lnT l ++ (x ++ [10]) := by
  unfold lnT; rw [List.flatMap_append]; simp
set_option maxRecDepth 100000 in
set_option maxHeartbeats 1000000 in
theorem refPartQ_any (lines : List ByteArray) (rest : ByteArray) (ls : List (List UInt8)) (A : Option Addr) (c i0 : Nat) (w : World) (hp : Hid (Pcs lines rest ls)) (h0 : i0 ≤ lines.length) (hl : lines.length ≤ 70000) (hs : Sl Lay.str w A lines) :
    Calls Tryz.prog 51 #[.slice A lines.length c, .string rest, .int .i64 i0] w fun e w' => RetPt (ls.drop i0) i0 e ∧ w = w' := by
  have hsl := hp.out.len
  have HD : Hid ((ls.drop i0).dropLast = (lines.map toL).drop i0) := by
    show _ = _
    rw [hp.out.eq, List.drop_append_of_le_length (by simpa using h0)]
    simp
  clear hsl
  go_enter Tryz.func51, Tryz.ntmps51
  go_wp2_with fail
  go_loop [8, 9] (fun v8 i => ∃ (k : Nat) (o : ByteArray), i0 + k ≤ lines.length ∧ i = .int .i64 (i0 + k : Nat) ∧ v8 = .string o ∧ o.size ≤ 65536 ∧ Hid (toL o = lnT ((ls.drop i0).take k) ∧ ∀ j (h : j < lines.length), i0 ≤ j → j < i0 + k → toL lines[j] ≠ wE)) (fun _ i => lines.length - (intOf i).toNat)
  case atStart => exact ⟨0, ⟨#[]⟩, h0, rfl, rfl, Nat.zero_le _, by simp [lnT]; rfl, fun _ _ _ h => by omega⟩
  case round =>
    obtain ⟨k, o, hk, rfl, rfl, ho, HO⟩ := hrel
    by_cases hlt : i0 + k < lines.length
    · obtain ⟨b, off, rfl, hb, d0⟩ := hs.str_at hlt
      have HT : Hid ((ls.drop i0).take (k + 1) = (ls.drop i0).take k ++ [toL lines[i0 + k]]) := by
        have h1 : (ls.drop i0)[k]? = some (toL lines[i0 + k]) := by rw [List.getElem?_drop]; exact hp.out.at hlt
        have h2 := (List.getElem?_eq_some_iff.1 h1)
        obtain ⟨h3, h4⟩ := h2
        show _ = _
        rw [List.take_succ_eq_append_getElem h3, h4]
      have HN : Hid (toL (o ++ (lines[i0 + k] ++ ⟨#[10]⟩)) = lnT ((ls.drop i0).take (k + 1))) := by
        show _ = _
        rw [HT.out, lnT_snoc, toL_append, toL_append, HO.out.1]
        rfl
      have hsz1 : o.size + (lines[i0 + k].size + 1) ≤ 65536 := by
        have h1 := hp.out.cut (i := i0) (k := k + 1) (by omega)
        rw [← HN.out, toL_append, toL_append, List.length_append, List.length_append, toL_len, toL_len] at h1
        have h2 : (toL ⟨#[10]⟩).length = 1 := rfl
        omega
      have hsz2 : (o ++ (lines[i0 + k] ++ ⟨#[10]⟩)).size = o.size + (lines[i0 + k].size + 1) := by rw [ByteArray.size_append, ByteArray.size_append]; rfl
      have HSZ : Hid ((o ++ (lines[i0 + k] ++ ⟨#[10]⟩)).size ≤ 65536) := by show _ ≤ _; omega
      clear hsz2
      cases he : (lines[i0 + k].toList == [101, 110, 100]) with
      | true =>
        have hE : toL lines[i0 + k] = wE := by rw [← ByteArray.toList_eq']; exact beq_iff_eq.1 he
        have HEND : Hid (endAt (ls.drop i0) = some k) := by
          show _ = _
          unfold endAt
          rw [HD.out, List.findIdx?_eq_some_iff_getElem]
          refine ⟨by simp; omega, by simp [hE], fun j hj => ?_⟩
          have := HO.out.2 (i0 + j) (by omega) (by omega) (by omega)
          simpa using this
        have HR : Hid (spl 10 (toL (o ++ (lines[i0 + k] ++ ⟨#[10]⟩))) = (partP (ls.drop i0)).1 ∧ (partP (ls.drop i0)).2.1 = k + 1) := by
          unfold partP
          rw [HEND.out]
          refine ⟨?_, rfl⟩
          rw [HN.out, spl_lnT]
          intro x hx
          exact hp.out.fr x (List.mem_of_mem_drop (List.mem_of_mem_take hx))
        go_wp2_with fail
        go_ret2
        exact ⟨⟨_, _, rfl, HR.out.1, HSZ.out, fun _ => by rw [HR.out.2]; omega⟩, rfl⟩
      | false =>
        have hE : toL lines[i0 + k] ≠ wE := by rw [← ByteArray.toList_eq']; exact beq_eq_false_iff_ne.1 he
        have HNX : Hid (toL (o ++ (lines[i0 + k] ++ ⟨#[10]⟩)) = lnT ((ls.drop i0).take (k + 1)) ∧ ∀ j (h : j < lines.length), i0 ≤ j → j < i0 + (k + 1) → toL lines[j] ≠ wE) := ⟨HN.out, fun j h h1 h2 => by
          by_cases e : j = i0 + k
          · subst e; exact hE
          · exact HO.out.2 j h h1 (by omega)⟩
        clear hE
        go_wp2_with fail
        go_round
        case rel => exact ⟨k + 1, _, by omega, by go_num, rfl, HSZ.out, HNX⟩
        case measure => simp [intOf]; omega
    · have hk2 : i0 + k = lines.length := by omega
      have HEND : Hid (endAt (ls.drop i0) = none) := by
        show _ = _
        unfold endAt
        rw [HD.out, List.findIdx?_eq_none_iff]
        intro x hx
        obtain ⟨j, hj, rfl⟩ := List.getElem_of_mem hx
        rw [List.length_drop, List.length_map] at hj
        have := HO.out.2 (i0 + j) (by omega) (by omega) (by omega)
        simpa using this
      have HT : Hid (toL (o ++ rest) = glue 10 (ls.drop i0)) := by
        show _ = _
        have h1 : ls.drop i0 = (ls.drop i0).take k ++ [toL rest] := by
          conv => lhs; rw [← List.take_append_drop k (ls.drop i0)]
          rw [List.drop_drop, hk2, hp.out.last]
        rw [toL_append, HO.out.1]
        conv => rhs; rw [h1, glue_app (by simp)]
        rfl
      have hsz1 : o.size + rest.size ≤ 65536 := by
        have h1 := hp.out.cut (i := i0) (k := k) (by omega)
        rw [← HO.out.1, hk2, hp.out.last] at h1
        have h2 : (glue 10 [toL rest]).length = rest.size := toL_len rest
        rw [toL_len] at h1
        omega
      have HSZ : Hid ((o ++ rest).size ≤ 65536) := by show _ ≤ _; rw [ByteArray.size_append]; omega
      have HR : Hid (spl 10 (toL (o ++ rest)) = (partP (ls.drop i0)).1) := by
        show _ = _
        unfold partP
        rw [HEND.out, HT.out, spl_glue]
        · intro e
          have := congrArg List.length e
          rw [List.length_drop, hp.out.len] at this
          simp at this
          omega
        · intro x hx
          exact hp.out.fr x (List.mem_of_mem_drop hx)
      clear hk2
      go_wp2_with fail
      go_ret2
      exact ⟨⟨_, _, rfl, HR.out, HSZ.out, fun h => absurd HEND.out h⟩, rfl⟩
theorem cell_kept {w w' : World} {b b' i : Nat} {v : Value} (hg : w.grownBy w' (some b')) (hlt : b < w.heap.size) (hne : b ≠ b') (h : w.cell? ⟨b, i, none⟩ = some v) : w'.cell? ⟨b, i, none⟩ = some v :=
  (cell_of_block (hg.block b hlt (fun e => hne (Option.some.inj e))) i).trans h
theorem cell_keptD {w w' : World} {b b' i : Nat} {v : Value} (hg : w.grownBy w' (some b')) (hlt : b < w.heap.size) (hne : b ≠ b') (h : w.cell? ⟨b, i, none⟩ = some v) : w'.drew.cell? ⟨b, i, none⟩ = some v := by
  have := cell_kept hg hlt hne h
  exact this
/-- What ruleOf hands back: the rule counts only without an error. -/
def RetRulE (base : Nat) (r : Rul × Int) (w' : World) (e : Ending) : Prop := ∃ (x : Rul) (A : Option Addr) (n c : Nat), e = .returned (.tuple #[.agg #[.int .i64 x.kind, .string x.cls, .string x.mth, .int .i64 x.pth.root, .int .i64 x.pth.n, .slice A n c, .bool x.pth.star, .string x.tag], .int .i64 r.2]) ∧ Own cellsStr 1 base 9 w' (.slice A n c) x.pth.fields ∧ (r.2 = 0 → x = r.1)
theorem word_kind (x : ByteArray) {k : Nat} (h : 1 ≤ k) (h3 : k ≤ 3) : ((wordS k).toList == x.toList) = decide (kindP x = k) := by
  rw [ByteArray.toList_eq' (wordS k), ByteArray.toList_eq' x, Bool.eq_iff_iff, beq_iff_eq, decide_eq_true_iff]
  rcases (show k = 1 ∨ k = 2 ∨ k = 3 by omega) with rfl | rfl | rfl
  · have : toL (wordS ((1 : Nat) : Int)) = [115, 111, 117, 114, 99, 101] := rfl
    rw [this]
    unfold kindP
    constructor
    · intro h; rw [if_pos h.symm]; rfl
    · intro h
      split at h
      · rename_i e; exact e.symm
      · repeat' split at h
        all_goals (exfalso; revert h; decide)
  · have : toL (wordS ((2 : Nat) : Int)) = [115, 105, 110, 107] := rfl
    rw [this]
    unfold kindP
    constructor
    · intro h; rw [← h]; decide
    · intro h
      split at h
      · exfalso; revert h; decide
      split at h
      · rename_i e; exact e.symm
      · repeat' split at h
        all_goals (exfalso; revert h; decide)
  · have : toL (wordS ((3 : Nat) : Int)) = [115, 97, 110, 105, 116, 105, 122, 101, 114] := rfl
    rw [this]
    unfold kindP
    constructor
    · intro h; rw [← h]; decide
    · intro h
      split at h
      · exfalso; revert h; decide
      split at h
      · exfalso; revert h; decide
      split at h
      · rename_i e; exact e.symm
      · exfalso; revert h; decide
theorem kindP_cases (x : ByteArray) : kindP x = 0 ∨ kindP x = 1 ∨ kindP x = 2 ∨ kindP x = 3 := by
  unfold kindP
  repeat' split
  all_goals omega
theorem ruleP_short {s : ByteArray} (h : hasE (wds 32 s) = false) (hl : (wds 32 s).length ≠ 5) : ruleP s = (zRul, 2) := by
  unfold ruleP
  rw [if_neg (by rw [h]; simp)]
  split
  · rename_i hq; rw [hq] at hl; exact absurd rfl hl
  · rfl
set_option maxRecDepth 100000 in
set_option maxHeartbeats 8000000 in
theorem refRuleOf_any (s : ByteArray) (w : World) (hs : s.size ≤ 65536) : Calls Tryz.prog 50 #[.string s] w fun e w' => RetRulE w.heap.size (ruleP s) w' e ∧ Below w.heap.size w w' := by
  obtain ⟨R, HR⟩ : ∃ R, Hid (R = ruleP s) := ⟨_, Lib.hid rfl⟩
  rw [← HR.out]
  have HWB := Lib.hid (fun W => refWordsB_any s W hs)
  have hwl := wds_len 32 s
  have HWZ : Hid (∀ x ∈ wds 32 s, x.size ≤ 65536) := fun x hx => by have := wds_size hx; omega
  have HBAD1 : Hid (hasE (wds 32 s) = true → R = (zRul, 2)) := fun h => by rw [HR.out, ruleP, if_pos h]
  have HBAD2 : Hid (hasE (wds 32 s) = false → (wds 32 s).length ≠ 5 → R = (zRul, 2)) := fun h hl => by rw [HR.out, ruleP_short h hl]
  have HGOOD : Hid (hasE (wds 32 s) = false → ∀ x0 x1 x2 x3 x4, wds 32 s = [x0, x1, x2, x3, x4] → R = ruleW x0 x1 x2 x3 x4) := fun h x0 x1 x2 x3 x4 hq => by rw [HR.out, ruleP, if_neg (by rw [h]; simp), hq]
  clear HR
  generalize wds 32 s = ws at *
  go_enter Tryz.func50, Tryz.ntmps50
  go_upto_region 1 with fail
  have br1 := Box.new w [.int .i64 0, .string ⟨#[]⟩, .string ⟨#[]⟩, .int .i64 0, .int .i64 0, .slice none 0 0, .bool false, .string ⟨#[]⟩] 51
  have bl1 : Below w.heap.size w (w.alloc (.cells #[.int .i64 0, .string ⟨#[]⟩, .string ⟨#[]⟩, .int .i64 0, .int .i64 0, .slice none 0 0, .bool false, .string ⟨#[]⟩] 51)) := (by repeat (first | assumption | exact Below.refl _ _ | apply bw_alloc | apply bw_drew | apply bw_drewN | apply bw_later | apply bw_step))
  generalize World.alloc w _ = w1 at *
  go_wp2_with fail
  refine (HWB.out _).mono ?_
  rintro e w2 ⟨⟨vw, bb, rfl, hbb, hown⟩, hb2⟩
  have br2 := br1.mono hb2
  have bl2 := below_step bl1 hb2
  have hbl := br1.lt
  clear br1 bl1 HWB
  subst hbb
  cases hE : hasE ws with
  | true =>
    have HB := Lib.hid (HBAD1.out hE)
    have q0 := br2.cell 0 rfl
    have q1 := br2.cell 1 rfl
    have q2 := br2.cell 2 rfl
    have q3 := br2.cell 3 rfl
    have q4 := br2.cell 4 rfl
    have q5 := br2.cell 5 rfl
    have q6 := br2.cell 6 rfl
    have q7 := br2.cell 7 rfl
    have qf := fun i => br2.free i
    have ql := br2.lt
    obtain ⟨hbz, hgz⟩ := br2.store8 (.int .i64 0) (.string ⟨#[]⟩) (.string ⟨#[]⟩) (.int .i64 0) (.int .i64 0) (.slice none 0 0) (.bool false) (.string ⟨#[]⟩)
    have hbwz := bl2.grown hgz bl2.size (fun k hk => by injection hk with hk; omega)
    have y0 := hbz.cell 0 rfl
    have y1 := hbz.cell 1 rfl
    have y2 := hbz.cell 2 rfl
    have y3 := hbz.cell 3 rfl
    have y4 := hbz.cell 4 rfl
    have y5 := hbz.cell 5 rfl
    have y6 := hbz.cell 6 rfl
    have y7 := hbz.cell 7 rfl
    go_wp2_with fail
    refine bodyPost_ret (v := .tuple #[.agg #[.int .i64 0, .string ⟨#[]⟩, .string ⟨#[]⟩, .int .i64 0, .int .i64 0, .slice none 0 0, .bool false, .string ⟨#[]⟩], .int .i64 2]) (by simp [results, Tryz.results50, go_sem, y0, y1, y2, y3, y4, y5, y6, y7]) rfl ⟨?_, hbwz⟩
    rw [HB.out]
    exact ⟨zRul, none, 0, 0, rfl, Own.nil, fun h => by omega⟩
  | false =>
    have hown2 := hown (by rw [hE]; rfl)
    clear hown HBAD1
    by_cases hl5 : ws.length = 5
    case neg =>
      have HB := Lib.hid (HBAD2.out hE hl5)
      have t5 : ((ws.length : Int) != 5) = true := by rw [bne_iff_ne]; omega
      obtain ⟨A6, c6, rfl, hc6, hs6⟩ := StrsV.of_own hown2
      clear hl5 hs6 hown2
      have q0 := br2.cell 0 rfl
      have q1 := br2.cell 1 rfl
      have q2 := br2.cell 2 rfl
      have q3 := br2.cell 3 rfl
      have q4 := br2.cell 4 rfl
      have q5 := br2.cell 5 rfl
      have q6 := br2.cell 6 rfl
      have q7 := br2.cell 7 rfl
      have qf := fun i => br2.free i
      have ql := br2.lt
      obtain ⟨hbz, hgz⟩ := br2.store8 (.int .i64 0) (.string ⟨#[]⟩) (.string ⟨#[]⟩) (.int .i64 0) (.int .i64 0) (.slice none 0 0) (.bool false) (.string ⟨#[]⟩)
      have hbwz := bl2.grown hgz bl2.size (fun k hk => by injection hk with hk; omega)
      have y0 := hbz.cell 0 rfl
      have y1 := hbz.cell 1 rfl
      have y2 := hbz.cell 2 rfl
      have y3 := hbz.cell 3 rfl
      have y4 := hbz.cell 4 rfl
      have y5 := hbz.cell 5 rfl
      have y6 := hbz.cell 6 rfl
      have y7 := hbz.cell 7 rfl
      go_wp2_with fail
      refine bodyPost_ret (v := .tuple #[.agg #[.int .i64 0, .string ⟨#[]⟩, .string ⟨#[]⟩, .int .i64 0, .int .i64 0, .slice none 0 0, .bool false, .string ⟨#[]⟩], .int .i64 2]) (by simp [results, Tryz.results50, go_sem, y0, y1, y2, y3, y4, y5, y6, y7]) rfl ⟨?_, hbwz⟩
      rw [HB.out]
      exact ⟨zRul, none, 0, 0, rfl, Own.nil, fun h => by omega⟩
    have hwz : ws.length ≤ 5 := by omega
    obtain ⟨bw, cw, rfl, hbwge, hrow⟩ := WRow.of_own hown2 (by omega)
    have HWS := Lib.hid (HGOOD.out hE)
    obtain ⟨x0, x1, x2, x3, x4, rfl⟩ := five hl5
    have HR2 := Lib.hid (HWS.out x0 x1 x2 x3 x4 rfl)
    have h3z := HWZ.out x3 (by simp)
    have HPA := Lib.hid (fun W => refAcpParse_any x3 W h3z)
    clear hown2 hE HGOOD HBAD2 HWS HWZ hl5 hwz hwl
    simp only [List.length_cons, List.length_nil, Nat.zero_add, Nat.reduceAdd]
    have hbw2 : w.heap.size < bw := by omega
    clear hbwge hb2
    have hK := kindP_cases x0
    obtain ⟨kd, HKD⟩ : ∃ kd, Hid (kd = kindP x0) := ⟨_, Lib.hid rfl⟩
    have HRW : Hid (R = if kd = 0 then (zRul, 2) else if (acpP (toL x3)).2 ≠ 0 then (zRul, (acpP (toL x3)).2) else (⟨kd, x1, x2, (acpP (toL x3)).1, x4⟩, 0)) := by show _ = _; rw [HR2.out, ruleW, HKD.out]
    have HWK : Hid (∀ k : Nat, 1 ≤ k → k ≤ 3 → ((wordS k).toList == x0.toList) = decide (kd = k)) := fun k h h3 => by rw [HKD.out]; exact word_kind x0 h h3
    rw [← HKD.out] at hK
    clear HR2 HKD
    generalize acpP (toL x3) = pa at *
    obtain ⟨⟨prt, pn, pfs, pst⟩, per⟩ := pa
    simp only at HPA HRW
    go_wp2_with fail
    go_loopw [6] (fun i wr => ∃ k : Nat, 1 ≤ k ∧ k ≤ 4 ∧ i = .int .i64 k ∧ Box wr w.heap.size [.int .i64 0, .string ⟨#[]⟩, .string ⟨#[]⟩, .int .i64 0, .int .i64 0, .slice none 0 0, .bool false, .string ⟨#[]⟩] 51 ∧ WRow wr bw [x0, x1, x2, x3, x4] ∧ Below w.heap.size w wr ∧ Hid (∀ j : Nat, 1 ≤ j → j < k → kd ≠ j)) (fun i _ => 4 - (intOf i).toNat)
    case atStart => exact ⟨1, Nat.le_refl _, by omega, rfl, br2, hrow, bl2, fun _ _ _ => by omega⟩
    case round =>
      clear br2 hrow bl2
      obtain ⟨k, hk1, hk4, rfl, hbr, hrw, hbl2, HNK⟩ := hrel
      have hbwl := hrw.lt
      by_cases hk3 : k ≤ 3
      · have d0 := hrw.cell 0 (by simp)
        simp only [List.getElem_cons_zero] at d0
        have HWD : Hid (∀ x : Later wr, Calls Tryz.prog 40 #[.int .i64 k] x.W fun e w' => e = .returned (.string (wordS k)) ∧ Below x.W.heap.size x.W w') := fun x => refWord_any k x.W
        have HT := Lib.hid (HWK.out k hk1 hk3)
        have HDK : Hid (decide (kd = (k : Int)) = true → kd = k) := fun h => of_decide_eq_true h
        have HDN : Hid (decide (kd = (k : Int)) = false → kd ≠ k) := fun h => of_decide_eq_false h
        generalize decide (kd = (k : Int)) = b at *
        generalize wordS k = wk at *
        have tt : (wk.toList == x0.toList) = b := HT.out
        clear HT
        go_wp2_with fail
        refine wp_region_later (by kernel_rfl) (by kernel_rfl) ?_
        repeat (go_big_quiet_step (first | (go_at_call 40; exact Calls.later (HWD.out _))))
        refine wpQuiet_nil ?_
        rintro _ ⟨z, rfl⟩
        have hbrz := hbr.mono z.h
        have hrwz := hrw.mono z.h
        have hblz := below_step hbl2 z.h
        generalize z.W = wz at *
        clear hbr hrw hbl2 d0 hbwl z HWD
        have hbwl := hrwz.lt
        cases b with
        | false =>
          have HN : Hid (∀ j : Nat, 1 ≤ j → j < k + 1 → kd ≠ j) := fun j h1 h2 => by
            by_cases e : j = k
            · subst e; exact HDN.out rfl
            · exact HNK.out j h1 (by omega)
          go_wp2_with fail
          go_roundw
          case rel => exact ⟨k + 1, by omega, by omega, by go_num, hbrz, hrwz, hblz, HN⟩
          case measure => simp [intOf]; omega
        | true =>
          have hkd := HDK.out rfl
          have HRV : Hid (R = if per ≠ 0 then (zRul, per) else (⟨k, x1, x2, ⟨prt, pn, pfs, pst⟩, x4⟩, 0)) := by show _ = _; rw [HRW.out, hkd, if_neg (by omega)]
          have d3 := hrwz.cell 3 (by simp)
          simp only [List.getElem_cons_succ, List.getElem_cons_zero] at d3
          clear hkd HDK HDN HNK HWK HRW hK
          go_wp2_with fail
          refine (HPA.out _).mono ?_
          rintro e w4 ⟨⟨A7, n7, c7, rfl, hown7⟩, hb4⟩
          simp only at hown7 ⊢
          have hw4 : w.heap.size < w4.heap.size := Nat.lt_of_lt_of_le hbrz.lt hb4.size
          have ha4 : Below w4.heap.size w4 (w4.alloc (.cells #[.int .i64 prt, .int .i64 pn, .slice A7 n7 c7, .bool pst] 49)) := (by repeat (first | assumption | exact Below.refl _ _ | apply bw_alloc | apply bw_drew | apply bw_drewN | apply bw_later | apply bw_step))
          have bp5 := Box.new w4 [.int .i64 prt, .int .i64 pn, .slice A7 n7 c7, .bool pst] 49
          have br5 := (hbrz.mono hb4).mono ha4
          have rw5 := (hrwz.mono hb4).mono ha4
          have bl5 := below_step (below_step hblz hb4) ha4
          have ow5 := (hown7.mono ha4).base_le' (Nat.succ_le_of_lt hbrz.lt)
          clear d3 hbrz hrwz hblz hown7 hb4 ha4 hbwl
          go_upto_region 9 with fail
          generalize World.alloc w4 _ = w5 at *
          have e1 := rw5.cell 1 (by simp)
          have e2 := rw5.cell 2 (by simp)
          have e4 := rw5.cell 4 (by simp)
          simp only [List.getElem_cons_succ, List.getElem_cons_zero] at e1 e2 e4
          have el := rw5.lt
          have p0 := bp5.cell 0 rfl
          have p1 := bp5.cell 1 rfl
          have p2 := bp5.cell 2 rfl
          have p3 := bp5.cell 3 rfl
          have pl := bp5.lt
          have q0 := br5.cell 0 rfl
          have q1 := br5.cell 1 rfl
          have q2 := br5.cell 2 rfl
          have q3 := br5.cell 3 rfl
          have q4 := br5.cell 4 rfl
          have q5 := br5.cell 5 rfl
          have q6 := br5.cell 6 rfl
          have q7 := br5.cell 7 rfl
          have qf := fun i => br5.free i
          have ql := br5.lt
          have nb : bw ≠ w.heap.size := by omega
          have np : w4.heap.size ≠ w.heap.size := by omega
          obtain ⟨hbX, hgy⟩ := br5.store8 (.int .i64 k) (.string x1) (.string x2) (.int .i64 prt) (.int .i64 pn) (.slice A7 n7 c7) (.bool pst) (.string x4)
          have hbz := hbX.drew
          have hbwz := (bl5.grown hgy bl5.size (fun k hk => by injection hk with hk; omega)).drew
          have owz := (ow5.kept hgy (fun k hk hv => by injection hk with hk; have := (World.ownsRow.lt ow5 k hv).1; omega)).mono (bw_drew (Below.refl _ _))
          clear hbX
          go_cut [3] (fun v3 wx => v3 = .int .i64 per ∧ Box wx w.heap.size [.int .i64 k, .string x1, .string x2, .int .i64 prt, .int .i64 pn, .slice A7 n7 c7, .bool pst, .string x4] 51 ∧ Below w.heap.size w wx ∧ Own cellsStr 1 (w.heap.size + 1) 9 wx (.slice A7 n7 c7) pfs)
          case first =>
            have D0 : w5.drew.cell? ⟨bw, 1, none⟩ = some (.string x1) := e1
            have D1 : w5.drew.cell? ⟨bw, 2, none⟩ = some (.string x2) := e2
            have D2 : w5.drew.cell? ⟨bw, 4, none⟩ = some (.string x4) := e4
            have D3 : w5.drew.cell? ⟨w4.heap.size, 0, none⟩ = some (.int .i64 prt) := p0
            have D4 : w5.drew.cell? ⟨w4.heap.size, 1, none⟩ = some (.int .i64 pn) := p1
            have D5 : w5.drew.cell? ⟨w4.heap.size, 2, none⟩ = some (.slice A7 n7 c7) := p2
            have D6 : w5.drew.cell? ⟨w4.heap.size, 3, none⟩ = some (.bool pst) := p3
            go_region_held3 (fun w' => w'.cell? ⟨bw, 1, none⟩ = some (.string x1) ∧ w'.cell? ⟨bw, 2, none⟩ = some (.string x2) ∧ w'.cell? ⟨bw, 4, none⟩ = some (.string x4) ∧ w'.cell? ⟨w4.heap.size, 0, none⟩ = some (.int .i64 prt) ∧ w'.cell? ⟨w4.heap.size, 1, none⟩ = some (.int .i64 pn) ∧ w'.cell? ⟨w4.heap.size, 2, none⟩ = some (.slice A7 n7 c7) ∧ w'.cell? ⟨w4.heap.size, 3, none⟩ = some (.bool pst)) (first | with_reducible exact ⟨D0, D1, D2, D3, D4, D5, D6⟩ | with_reducible exact ⟨cell_keptD hgy el nb e1, cell_keptD hgy el nb e2, cell_keptD hgy el nb e4, cell_keptD hgy pl np p0, cell_keptD hgy pl np p1, cell_keptD hgy pl np p2, cell_keptD hgy pl np p3⟩) (first | fail)
            all_goals
              go_wp2_with fail
              go_meet
              with_reducible exact ⟨rfl, hbz, hbwz, owz⟩
          case rest =>
          clear hbz hbwz owz hgy
          obtain ⟨rfl, hbz, hbwz, owz⟩ := hcut
          have y0 := hbz.cell 0 rfl
          have y1 := hbz.cell 1 rfl
          have y2 := hbz.cell 2 rfl
          have y3 := hbz.cell 3 rfl
          have y4 := hbz.cell 4 rfl
          have y5 := hbz.cell 5 rfl
          have y6 := hbz.cell 6 rfl
          have y7 := hbz.cell 7 rfl
          go_wp2_with fail
          refine bodyPost_ret (v := .tuple #[.agg #[.int .i64 k, .string x1, .string x2, .int .i64 prt, .int .i64 pn, .slice A7 n7 c7, .bool pst, .string x4], .int .i64 per]) (by simp [results, Tryz.results50, go_sem, y0, y1, y2, y3, y4, y5, y6, y7]) rfl ⟨?_, hbwz⟩
          refine ⟨⟨k, x1, x2, ⟨prt, pn, pfs, pst⟩, x4⟩, A7, n7, c7, ?_, owz.base_le' (Nat.le_succ _), fun h => ?_⟩
          · rw [HRV.out]
            by_cases hp : per = 0
            · subst hp; rfl
            · rw [if_pos hp]
          · rw [HRV.out] at h ⊢
            by_cases hp : per = 0
            · subst hp; rfl
            · rw [if_pos hp] at h; exact absurd h hp
      · have hk0 : kd = 0 := by
          have h1 := HNK.out 1 (by omega) (by omega)
          have h2 := HNK.out 2 (by omega) (by omega)
          have h3 := HNK.out 3 (by omega) (by omega)
          omega
        have HB : Hid (R = (zRul, 2)) := by show _ = _; rw [HRW.out, if_pos hk0]
        clear hk0 HNK
        obtain rfl : k = 4 := by omega
        clear hk1 hk4 hk3
        have q0 := hbr.cell 0 rfl
        have q1 := hbr.cell 1 rfl
        have q2 := hbr.cell 2 rfl
        have q3 := hbr.cell 3 rfl
        have q4 := hbr.cell 4 rfl
        have q5 := hbr.cell 5 rfl
        have q6 := hbr.cell 6 rfl
        have q7 := hbr.cell 7 rfl
        have qf := fun i => hbr.free i
        have ql := hbr.lt
        obtain ⟨hbz, hgz⟩ := hbr.store8 (.int .i64 0) (.string ⟨#[]⟩) (.string ⟨#[]⟩) (.int .i64 0) (.int .i64 0) (.slice none 0 0) (.bool false) (.string ⟨#[]⟩)
        have hbwz := hbl2.grown hgz hbl2.size (fun k hk => by injection hk with hk; omega)
        have y0 := hbz.cell 0 rfl
        have y1 := hbz.cell 1 rfl
        have y2 := hbz.cell 2 rfl
        have y3 := hbz.cell 3 rfl
        have y4 := hbz.cell 4 rfl
        have y5 := hbz.cell 5 rfl
        have y6 := hbz.cell 6 rfl
        have y7 := hbz.cell 7 rfl
        go_wp2_with fail
        refine bodyPost_ret (v := .tuple #[.agg #[.int .i64 0, .string ⟨#[]⟩, .string ⟨#[]⟩, .int .i64 0, .int .i64 0, .slice none 0 0, .bool false, .string ⟨#[]⟩], .int .i64 2]) (by simp [results, Tryz.results50, go_sem, y0, y1, y2, y3, y4, y5, y6, y7]) rfl ⟨?_, hbwz⟩
        rw [HB.out]
        exact ⟨zRul, none, 0, 0, rfl, Own.nil, fun h => by omega⟩
end Go.Proofs.YthabojhnliomnaaGreatDoor

namespace Go.Proofs.YthabojhnliomnaaGreatDoor
open Go.RowKit Go.Deep
set_option linter.unusedVariables false

/-- The block of an address holds cells of one type. -/
def BlkTy (w : World) (A : Option Addr) (t : TypeId) : Prop := ∀ a, A = some a → ∃ cs fr, w.heap[a.block]? = some (.cells cs t fr)
theorem BlkTy.to {w w' : World} {A : Option Addr} {t : TypeId} (h : BlkTy w A t) (hb : ∀ b, b < w.heap.size → (∃ cs fr, w.heap[b]? = some (.cells cs t fr)) → w'.heap[b]? = w.heap[b]?) : BlkTy w' A t := fun a ha => by
  obtain ⟨cs, fr, h1⟩ := h a ha
  exact ⟨cs, fr, (hb _ (Array.getElem?_eq_some_iff.1 h1).1 ⟨cs, fr, h1⟩).trans h1⟩
theorem BlkTy.mono {w w' : World} {A : Option Addr} {t : TypeId} (h : BlkTy w A t) (hb : Below w.heap.size w w') : BlkTy w' A t := h.to fun b hlt _ => hb.block b hlt
theorem BlkTy.shift {w : World} {b o o' : Nat} {t : TypeId} (h : BlkTy w (some ⟨b, o, none⟩) t) : BlkTy w (some ⟨b, o', none⟩) t := fun a ha => by
  obtain rfl := Option.some.inj ha
  exact h ⟨b, o, none⟩ rfl
theorem Own.blkTy {α : Type} {cells : α → List Value} {size base : Nat} {e : TypeId} {w : World} {A : Option Addr} {n c : Nat} {l : List α} (h : Own cells size base e w (.slice A n c) l) : BlkTy w A e := fun a ha => by
  subst ha
  rcases h.2 with ⟨h1, _⟩ | ⟨g, cap, cur, h1, _, hh, _⟩
  · injection h1 with h1; cases h1
  · injection h1 with h1
    have h1 := Option.some.inj h1
    subst h1
    exact ⟨_, _, hh⟩
/-- What a line gives: the protocol counts only without an error. -/
def RetHd (r : Rd) (ws : List ByteArray) (w' : World) (e : Ending) : Prop := ∃ (x : Ptc) (B1 : Option Addr) (d1 : Nat) (B4 : Option Addr) (d4 : Nat) (er : Int), e = .returned (.tuple #[.agg #[.string x.cls, .slice B1 x.states.length d1, .int .i64 x.start, .int .i64 x.err, .slice B4 x.moves.length d4], .int .i64 er]) ∧ (x.states.length ≤ d1 ∧ Sl Lay.str w' B1 x.states ∧ x.moves.length ≤ d4 ∧ Sl Lay.mov w' B4 x.moves ∧ BlkTy w' B1 9 ∧ BlkTy w' B4 103) ∧ er = (if hasE ws then 2 else (stepR r ws).2) ∧ (er = 0 → x = (stepR r ws).1.ptc)
theorem formB_iff {ws : List ByteArray} {f : List UInt8} {n : Nat} (hn : n ≠ 0) : formB ws f n = true ↔ (toL (ws.headD ⟨#[]⟩) = f ∧ ws.length = n) ∧ hasE ws = false := by
  unfold formB
  rw [if_neg hn, Bool.and_eq_true, Bool.and_eq_true, decide_eq_true_iff, decide_eq_true_iff]
  simp
theorem formB_iff0 {ws : List ByteArray} {f : List UInt8} : formB ws f 0 = true ↔ (toL (ws.headD ⟨#[]⟩) = f ∧ 2 ≤ ws.length) ∧ hasE ws = false := by
  unfold formB
  rw [if_pos rfl, Bool.and_eq_true, Bool.and_eq_true, decide_eq_true_iff, decide_eq_true_iff]
  simp
theorem ifE_two {ws : List ByteArray} {x : Int} (h : hasE ws = false → x = 2) : 2 = (if hasE ws then (2 : Int) else x) := by
  cases he : hasE ws with
  | true => rfl
  | false => rw [if_neg (by simp), h he]
theorem ifE_no {ws : List ByteArray} {x y : Int} (he : hasE ws = false) (h : y = x) : y = (if hasE ws then (2 : Int) else x) := by rw [he]; exact h
theorem slTail {w : World} {b o : Nat} {ws : List ByteArray} (h : Sl Lay.str w (some ⟨b, o, none⟩) ws) : Sl Lay.str w (some ⟨b, o + 1, none⟩) ws.tail := fun i x hx => by
  rw [List.getElem?_tail] at hx
  obtain ⟨b', o', vs, e, h1, h2, h3⟩ := h (i + 1) x hx
  injection e with e
  injection e with e1 e2
  subst e1 e2
  exact ⟨b, o + 1, vs, rfl, h1, h2, fun j v hj => by
    have := h3 j v hj
    rwa [show o + (i + 1) * Lay.str.size + j = o + 1 + i * Lay.str.size + j from by show o + (i + 1) * 1 + j = o + 1 + i * 1 + j; omega] at this⟩
end Go.Proofs.YthabojhnliomnaaGreatDoor

namespace Go.Proofs.YthabojhnliomnaaGreatDoor
open Go.RowKit Go.Deep
set_option linter.unusedVariables false
section
variable (r : Rd) (ws : List ByteArray) (A1 A4 AW : Option Addr) (c1 c4 cW : Nat) (w : World)
set_option maxRecDepth 100000 in
set_option maxHeartbeats 4000000 in
theorem refHead0 (h0 : 0 < ws.length) (hl : ws.length ≤ 100000) (hcW : ws.length ≤ cW) (hst : r.stage = 0) (hls : r.states.length ≤ 100000) (hc1 : r.states.length ≤ c1) (hs1 : Sl Lay.str w A1 r.states) (hc4 : r.moves.length ≤ c4) (hs4 : Sl Lay.mov w A4 r.moves) (hw : Sl Lay.str w AW ws) (hT1 : BlkTy w A1 9) (hT4 : BlkTy w A4 103) (hTW : BlkTy w AW 9) :
    Calls Tryz.prog 98 #[.agg #[.string r.cls, .slice A1 r.states.length c1, .int .i64 r.start, .int .i64 r.err, .slice A4 r.moves.length c4], .int .i64 0, .slice AW ws.length cW] w fun e w' => RetHd r ws w' e ∧ Below w.heap.size w w' := by
  have HFM : Hid (∀ W, Below w.heap.size w W → Calls Tryz.prog 99 #[.slice AW ws.length cW, .string ⟨#[112, 114, 111, 116, 111, 99, 111, 108]⟩, .int .i64 2] W fun e w' => e = .returned (.bool (formB ws [112, 114, 111, 116, 111, 99, 111, 108] 2)) ∧ W = w') := fun W hW => refForm_any AW cW ws ⟨#[112, 114, 111, 116, 111, 99, 111, 108]⟩ 2 W h0 hl (by omega) (hw.mono hW)
  have HB1 : Hid (formB ws [112, 114, 111, 116, 111, 99, 111, 108] 2 = false → hasE ws = false → stepR r ws = (r, 2)) := fun h he => by
    have h1 : ¬ (toL (ws.headD ⟨#[]⟩) = [112, 114, 111, 116, 111, 99, 111, 108] ∧ ws.length = 2) := fun hc => by
      have := formB_iff (by omega) (ws := ws) (f := [112, 114, 111, 116, 111, 99, 111, 108]) |>.2 ⟨hc, he⟩
      rw [h] at this
      cases this
    unfold stepR
    rw [hst]
    simp only
    rw [if_neg h1]
  have HB2 : Hid (formB ws [112, 114, 111, 116, 111, 99, 111, 108] 2 = true → ((toL (ws.headD ⟨#[]⟩) = [112, 114, 111, 116, 111, 99, 111, 108] ∧ ws.length = 2) ∧ hasE ws = false)) := fun h => formB_iff (by omega) |>.1 h
  have HST : Hid ((toL (ws.headD ⟨#[]⟩) = [112, 114, 111, 116, 111, 99, 111, 108] ∧ ws.length = 2) → stepR r ws = ({ r with cls := ws.getD 1 ⟨#[]⟩, stage := 1 }, 0)) := fun h => by
    unfold stepR
    rw [hst]
    simp only
    rw [if_pos h]
  clear hst
  have HAT : Hid (∀ (y : ByteArray) (x : Later w), Calls Tryz.prog 79 #[.slice A1 r.states.length c1, .string y] x.W fun e w' => e = .returned (.int .i64 (atI r.states y)) ∧ x.W = w') := fun y x => refAt_any A1 c1 r.states y x.W (by omega) (hs1.later x)
  obtain ⟨F, HF⟩ : ∃ F : ByteArray → Int, Hid (F = atI r.states) := ⟨_, Lib.hid rfl⟩
  rw [← HF.out] at HAT
  go_enter Tryz.func98, Tryz.ntmps98
  go_upto_region 5 with fail
  have bp1 : Box (((w.alloc (.cells #[.string r.cls, .slice A1 r.states.length c1, .int .i64 r.start, .int .i64 r.err, .slice A4 r.moves.length c4] 63)).alloc (.cells #[.string ⟨#[]⟩, .slice none 0 0, .int .i64 0, .int .i64 0, .slice none 0 0] 63)).alloc (.cells #[.string ⟨#[112, 114, 111, 116, 111, 99, 111, 108]⟩, .string ⟨#[115, 116, 97, 116, 101, 115]⟩, .string ⟨#[115, 116, 97, 114, 116]⟩, .string ⟨#[101, 114, 114, 111, 114]⟩] 9)) w.heap.size [.string r.cls, .slice A1 r.states.length c1, .int .i64 r.start, .int .i64 r.err, .slice A4 r.moves.length c4] 63 := (by repeat (first | (refine Box.at ?_; (simp; done)) | apply Box.drew | apply Box.alloc | assumption))
  have br1 : Box (((w.alloc (.cells #[.string r.cls, .slice A1 r.states.length c1, .int .i64 r.start, .int .i64 r.err, .slice A4 r.moves.length c4] 63)).alloc (.cells #[.string ⟨#[]⟩, .slice none 0 0, .int .i64 0, .int .i64 0, .slice none 0 0] 63)).alloc (.cells #[.string ⟨#[112, 114, 111, 116, 111, 99, 111, 108]⟩, .string ⟨#[115, 116, 97, 116, 101, 115]⟩, .string ⟨#[115, 116, 97, 114, 116]⟩, .string ⟨#[101, 114, 114, 111, 114]⟩] 9)) (w.heap.size + 1) [.string ⟨#[]⟩, .slice none 0 0, .int .i64 0, .int .i64 0, .slice none 0 0] 63 := (by repeat (first | (refine Box.at ?_; (simp; done)) | apply Box.drew | apply Box.alloc | assumption))
  have bn1 : Box (((w.alloc (.cells #[.string r.cls, .slice A1 r.states.length c1, .int .i64 r.start, .int .i64 r.err, .slice A4 r.moves.length c4] 63)).alloc (.cells #[.string ⟨#[]⟩, .slice none 0 0, .int .i64 0, .int .i64 0, .slice none 0 0] 63)).alloc (.cells #[.string ⟨#[112, 114, 111, 116, 111, 99, 111, 108]⟩, .string ⟨#[115, 116, 97, 116, 101, 115]⟩, .string ⟨#[115, 116, 97, 114, 116]⟩, .string ⟨#[101, 114, 114, 111, 114]⟩] 9)) (w.heap.size + 2) [.string ⟨#[112, 114, 111, 116, 111, 99, 111, 108]⟩, .string ⟨#[115, 116, 97, 116, 101, 115]⟩, .string ⟨#[115, 116, 97, 114, 116]⟩, .string ⟨#[101, 114, 114, 111, 114]⟩] 9 := (by repeat (first | (refine Box.at ?_; (simp; done)) | apply Box.drew | apply Box.alloc | assumption))
  have bl1 : Below w.heap.size w (((w.alloc (.cells #[.string r.cls, .slice A1 r.states.length c1, .int .i64 r.start, .int .i64 r.err, .slice A4 r.moves.length c4] 63)).alloc (.cells #[.string ⟨#[]⟩, .slice none 0 0, .int .i64 0, .int .i64 0, .slice none 0 0] 63)).alloc (.cells #[.string ⟨#[112, 114, 111, 116, 111, 99, 111, 108]⟩, .string ⟨#[115, 116, 97, 116, 101, 115]⟩, .string ⟨#[115, 116, 97, 114, 116]⟩, .string ⟨#[101, 114, 114, 111, 114]⟩] 9)) := (by repeat (first | assumption | exact Below.refl _ _ | apply bw_alloc | apply bw_drew | apply bw_drewN | apply bw_later | apply bw_step))
  generalize World.alloc (World.alloc (World.alloc w _) _) _ = w1 at *
  have hs1' := hs1.mono bl1
  have hw' := hw.mono bl1
  have n0 := bn1.cell 0 rfl
  have nl := bn1.lt
  go_wp2_with fail
  refine (HFM.out _ bl1).mono ?_
  rintro e w2 ⟨rfl, rfl⟩
  clear n0 nl bn1 HFM
  cases hfb : formB ws [112, 114, 111, 116, 111, 99, 111, 108] 2 with
  | false =>
    have HX := Lib.hid (HB1.out hfb)
    clear hfb HB1 HB2
    have p0 := bp1.cell 0 rfl
    have p1 := bp1.cell 1 rfl
    have p2 := bp1.cell 2 rfl
    have p3 := bp1.cell 3 rfl
    have p4 := bp1.cell 4 rfl
    have pf := fun i => bp1.free i
    have pl := bp1.lt
    have q0 := br1.cell 0 rfl
    have q1 := br1.cell 1 rfl
    have q2 := br1.cell 2 rfl
    have q3 := br1.cell 3 rfl
    have q4 := br1.cell 4 rfl
    have qf := fun i => br1.free i
    have ql := br1.lt
    obtain ⟨hbz, hgz⟩ := br1.store5 (.string r.cls) (.slice A1 r.states.length c1) (.int .i64 r.start) (.int .i64 r.err) (.slice A4 r.moves.length c4)
    have hbwz := bl1.grown hgz bl1.size (fun k hk => by injection hk with hk; omega)
    have y0 := hbz.cell 0 rfl
    have y1 := hbz.cell 1 rfl
    have y2 := hbz.cell 2 rfl
    have y3 := hbz.cell 3 rfl
    have y4 := hbz.cell 4 rfl
    go_wp2_with fail
    refine bodyPost_ret (v := .tuple #[.agg #[.string r.cls, .slice A1 r.states.length c1, .int .i64 r.start, .int .i64 r.err, .slice A4 r.moves.length c4], .int .i64 2]) (by simp [results, Tryz.results98, go_sem, y0, y1, y2, y3, y4]) rfl ⟨?_, hbwz⟩
    exact ⟨r.ptc, A1, c1, A4, c4, 2, rfl, ⟨hc1, hs1.mono hbwz, hc4, hs4.mono hbwz, hT1.mono hbwz, hT4.mono hbwz⟩, ifE_two (fun he => by rw [HX.out he]), fun h => by omega⟩
  | true =>
    obtain ⟨hcond, hne⟩ := HB2.out hfb
    have HS := Lib.hid (HST.out hcond)
    have hl1 : 1 < ws.length := by omega
    have HNE := Lib.hid hne
    have HG1 : Hid (ws.getD 1 ⟨#[]⟩ = ws[1]) := by show _ = _; simp [List.getD, hl1]
    rw [HG1.out] at HS
    clear hfb HB1 HB2 HST hcond hne HG1
    obtain ⟨bW, oW, rfl, hbW, d1⟩ := hw'.str_at hl1
    have p1 := bp1.cell 1 rfl
    have pl := bp1.lt
    have HAT2 : Hid (∀ (y : ByteArray) (x : Later w1), Calls Tryz.prog 79 #[.slice A1 r.states.length c1, .string y] x.W fun e w' => e = .returned (.int .i64 (F y)) ∧ x.W = w') := fun y x => by rw [HF.out]; exact refAt_any A1 c1 r.states y x.W (by omega) (hs1'.later x)
    clear HAT
    have hls' : r.states.length ≤ 100000 := hls
    go_wp2_with fail
    refine wp_region_later (by kernel_rfl) (by kernel_rfl) ?_
    repeat (go_big_quiet_step (first | (go_at_call 79; exact Calls.later_same (HAT2.out _ _))))
    refine wpQuiet_nil ?_
    rintro _ ⟨z, rfl⟩
    have bpz := bp1.mono z.h
    have brz := br1.mono z.h
    have blz := below_step bl1 z.h
    have dz : z.W.cell? ⟨bW, oW + 1, none⟩ = some (.string ws[1]) := keptC d1 hbW z.h
    have hbWz := Nat.lt_of_lt_of_le hbW z.h.size
    clear p1 pl bp1 br1 hs1' hw' d1 hbW HAT2
    generalize z.W = wz at *
    clear z bl1
    have p0 := bpz.cell 0 rfl
    have p1 := bpz.cell 1 rfl
    have p2 := bpz.cell 2 rfl
    have p3 := bpz.cell 3 rfl
    have p4 := bpz.cell 4 rfl
    have pf := fun i => bpz.free i
    have pl := bpz.lt
    have bpy := bpz.set 0 (.string ws[1])
    have hgy := grown_set wz w.heap.size 0 (.string ws[1])
    have bry := brz.grown hgy (by simp)
    have bly := blz.grown hgy blz.size (fun k hk => by injection hk with hk; omega)
    go_upto_region 11 with fail
    generalize World.setCell wz _ _ = wy at *
    clear p0 p1 p2 p3 p4 pf pl bpz brz blz dz hbWz hgy
    simp only [List.set_cons_zero] at bpy
    have p0 := bpy.cell 0 rfl
    have p1 := bpy.cell 1 rfl
    have p2 := bpy.cell 2 rfl
    have p3 := bpy.cell 3 rfl
    have p4 := bpy.cell 4 rfl
    have pf := fun i => bpy.free i
    have pl := bpy.lt
    have q0 := bry.cell 0 rfl
    have q1 := bry.cell 1 rfl
    have q2 := bry.cell 2 rfl
    have q3 := bry.cell 3 rfl
    have q4 := bry.cell 4 rfl
    have qf := fun i => bry.free i
    have ql := bry.lt
    obtain ⟨hbz, hgz⟩ := bry.store5 (.string ws[1]) (.slice A1 r.states.length c1) (.int .i64 r.start) (.int .i64 r.err) (.slice A4 r.moves.length c4)
    have hbwz := bly.grown hgz bly.size (fun k hk => by injection hk with hk; omega)
    have y0 := hbz.cell 0 rfl
    have y1 := hbz.cell 1 rfl
    have y2 := hbz.cell 2 rfl
    have y3 := hbz.cell 3 rfl
    have y4 := hbz.cell 4 rfl
    go_wp2_with fail
    refine bodyPost_ret (v := .tuple #[.agg #[.string ws[1], .slice A1 r.states.length c1, .int .i64 r.start, .int .i64 r.err, .slice A4 r.moves.length c4], .int .i64 0]) (by simp [results, Tryz.results98, go_sem, y0, y1, y2, y3, y4]) rfl ⟨?_, hbwz⟩
    exact ⟨{ r.ptc with cls := ws[1] }, A1, c1, A4, c4, 0, rfl, ⟨hc1, hs1.mono hbwz, hc4, hs4.mono hbwz, hT1.mono hbwz, hT4.mono hbwz⟩, ifE_no HNE.out (by rw [HS.out]), fun _ => by rw [HS.out]; rfl⟩
end
end Go.Proofs.YthabojhnliomnaaGreatDoor

namespace Go.Proofs.YthabojhnliomnaaGreatDoor
open Go.RowKit Go.Deep
set_option linter.unusedVariables false
section
variable (r : Rd) (ws : List ByteArray) (A1 A4 AW : Option Addr) (c1 c4 cW : Nat) (w : World)
set_option maxRecDepth 100000 in
set_option maxHeartbeats 4000000 in
theorem refHead1 (h0 : 0 < ws.length) (hl : ws.length ≤ 100000) (hcW : ws.length ≤ cW) (hst : r.stage = 1) (hls : r.states.length ≤ 100000) (hc1 : r.states.length ≤ c1) (hs1 : Sl Lay.str w A1 r.states) (hc4 : r.moves.length ≤ c4) (hs4 : Sl Lay.mov w A4 r.moves) (hw : Sl Lay.str w AW ws) (hT1 : BlkTy w A1 9) (hT4 : BlkTy w A4 103) (hTW : BlkTy w AW 9) :
    Calls Tryz.prog 98 #[.agg #[.string r.cls, .slice A1 r.states.length c1, .int .i64 r.start, .int .i64 r.err, .slice A4 r.moves.length c4], .int .i64 1, .slice AW ws.length cW] w fun e w' => RetHd r ws w' e ∧ Below w.heap.size w w' := by
  have HFM : Hid (∀ W, Below w.heap.size w W → Calls Tryz.prog 99 #[.slice AW ws.length cW, .string ⟨#[115, 116, 97, 116, 101, 115]⟩, .int .i64 0] W fun e w' => e = .returned (.bool (formB ws [115, 116, 97, 116, 101, 115] 0)) ∧ W = w') := fun W hW => refForm_any AW cW ws ⟨#[115, 116, 97, 116, 101, 115]⟩ 0 W h0 hl (by omega) (hw.mono hW)
  have HB1 : Hid (formB ws [115, 116, 97, 116, 101, 115] 0 = false → hasE ws = false → stepR r ws = (r, 2)) := fun h he => by
    have h1 : ¬ (toL (ws.headD ⟨#[]⟩) = [115, 116, 97, 116, 101, 115] ∧ 2 ≤ ws.length) := fun hc => by
      have := formB_iff0 (ws := ws) (f := [115, 116, 97, 116, 101, 115]) |>.2 ⟨hc, he⟩
      rw [h] at this
      cases this
    unfold stepR
    rw [hst]
    simp only
    rw [if_neg h1]
  have HB2 : Hid (formB ws [115, 116, 97, 116, 101, 115] 0 = true → ((toL (ws.headD ⟨#[]⟩) = [115, 116, 97, 116, 101, 115] ∧ 2 ≤ ws.length) ∧ hasE ws = false)) := fun h => formB_iff0 |>.1 h
  have HST : Hid ((toL (ws.headD ⟨#[]⟩) = [115, 116, 97, 116, 101, 115] ∧ 2 ≤ ws.length) → stepR r ws = ({ r with states := ws.tail, stage := 2 }, 0)) := fun h => by
    unfold stepR
    rw [hst]
    simp only
    rw [if_pos h]
  clear hst
  have HAT : Hid (∀ (y : ByteArray) (x : Later w), Calls Tryz.prog 79 #[.slice A1 r.states.length c1, .string y] x.W fun e w' => e = .returned (.int .i64 (atI r.states y)) ∧ x.W = w') := fun y x => refAt_any A1 c1 r.states y x.W (by omega) (hs1.later x)
  obtain ⟨F, HF⟩ : ∃ F : ByteArray → Int, Hid (F = atI r.states) := ⟨_, Lib.hid rfl⟩
  rw [← HF.out] at HAT
  go_enter Tryz.func98, Tryz.ntmps98
  go_upto_region 5 with fail
  have bp1 : Box (((w.alloc (.cells #[.string r.cls, .slice A1 r.states.length c1, .int .i64 r.start, .int .i64 r.err, .slice A4 r.moves.length c4] 63)).alloc (.cells #[.string ⟨#[]⟩, .slice none 0 0, .int .i64 0, .int .i64 0, .slice none 0 0] 63)).alloc (.cells #[.string ⟨#[112, 114, 111, 116, 111, 99, 111, 108]⟩, .string ⟨#[115, 116, 97, 116, 101, 115]⟩, .string ⟨#[115, 116, 97, 114, 116]⟩, .string ⟨#[101, 114, 114, 111, 114]⟩] 9)) w.heap.size [.string r.cls, .slice A1 r.states.length c1, .int .i64 r.start, .int .i64 r.err, .slice A4 r.moves.length c4] 63 := (by repeat (first | (refine Box.at ?_; (simp; done)) | apply Box.drew | apply Box.alloc | assumption))
  have br1 : Box (((w.alloc (.cells #[.string r.cls, .slice A1 r.states.length c1, .int .i64 r.start, .int .i64 r.err, .slice A4 r.moves.length c4] 63)).alloc (.cells #[.string ⟨#[]⟩, .slice none 0 0, .int .i64 0, .int .i64 0, .slice none 0 0] 63)).alloc (.cells #[.string ⟨#[112, 114, 111, 116, 111, 99, 111, 108]⟩, .string ⟨#[115, 116, 97, 116, 101, 115]⟩, .string ⟨#[115, 116, 97, 114, 116]⟩, .string ⟨#[101, 114, 114, 111, 114]⟩] 9)) (w.heap.size + 1) [.string ⟨#[]⟩, .slice none 0 0, .int .i64 0, .int .i64 0, .slice none 0 0] 63 := (by repeat (first | (refine Box.at ?_; (simp; done)) | apply Box.drew | apply Box.alloc | assumption))
  have bn1 : Box (((w.alloc (.cells #[.string r.cls, .slice A1 r.states.length c1, .int .i64 r.start, .int .i64 r.err, .slice A4 r.moves.length c4] 63)).alloc (.cells #[.string ⟨#[]⟩, .slice none 0 0, .int .i64 0, .int .i64 0, .slice none 0 0] 63)).alloc (.cells #[.string ⟨#[112, 114, 111, 116, 111, 99, 111, 108]⟩, .string ⟨#[115, 116, 97, 116, 101, 115]⟩, .string ⟨#[115, 116, 97, 114, 116]⟩, .string ⟨#[101, 114, 114, 111, 114]⟩] 9)) (w.heap.size + 2) [.string ⟨#[112, 114, 111, 116, 111, 99, 111, 108]⟩, .string ⟨#[115, 116, 97, 116, 101, 115]⟩, .string ⟨#[115, 116, 97, 114, 116]⟩, .string ⟨#[101, 114, 114, 111, 114]⟩] 9 := (by repeat (first | (refine Box.at ?_; (simp; done)) | apply Box.drew | apply Box.alloc | assumption))
  have bl1 : Below w.heap.size w (((w.alloc (.cells #[.string r.cls, .slice A1 r.states.length c1, .int .i64 r.start, .int .i64 r.err, .slice A4 r.moves.length c4] 63)).alloc (.cells #[.string ⟨#[]⟩, .slice none 0 0, .int .i64 0, .int .i64 0, .slice none 0 0] 63)).alloc (.cells #[.string ⟨#[112, 114, 111, 116, 111, 99, 111, 108]⟩, .string ⟨#[115, 116, 97, 116, 101, 115]⟩, .string ⟨#[115, 116, 97, 114, 116]⟩, .string ⟨#[101, 114, 114, 111, 114]⟩] 9)) := (by repeat (first | assumption | exact Below.refl _ _ | apply bw_alloc | apply bw_drew | apply bw_drewN | apply bw_later | apply bw_step))
  generalize World.alloc (World.alloc (World.alloc w _) _) _ = w1 at *
  have hs1' := hs1.mono bl1
  have hw' := hw.mono bl1
  have n0 := bn1.cell 1 rfl
  have nl := bn1.lt
  go_wp2_with fail
  refine (HFM.out _ bl1).mono ?_
  rintro e w2 ⟨rfl, rfl⟩
  clear n0 nl bn1 HFM
  cases hfb : formB ws [115, 116, 97, 116, 101, 115] 0 with
  | false =>
    have HX := Lib.hid (HB1.out hfb)
    clear hfb HB1 HB2
    have p0 := bp1.cell 0 rfl
    have p1 := bp1.cell 1 rfl
    have p2 := bp1.cell 2 rfl
    have p3 := bp1.cell 3 rfl
    have p4 := bp1.cell 4 rfl
    have pf := fun i => bp1.free i
    have pl := bp1.lt
    have q0 := br1.cell 0 rfl
    have q1 := br1.cell 1 rfl
    have q2 := br1.cell 2 rfl
    have q3 := br1.cell 3 rfl
    have q4 := br1.cell 4 rfl
    have qf := fun i => br1.free i
    have ql := br1.lt
    obtain ⟨hbz, hgz⟩ := br1.store5 (.string r.cls) (.slice A1 r.states.length c1) (.int .i64 r.start) (.int .i64 r.err) (.slice A4 r.moves.length c4)
    have hbwz := bl1.grown hgz bl1.size (fun k hk => by injection hk with hk; omega)
    have y0 := hbz.cell 0 rfl
    have y1 := hbz.cell 1 rfl
    have y2 := hbz.cell 2 rfl
    have y3 := hbz.cell 3 rfl
    have y4 := hbz.cell 4 rfl
    go_wp2_with fail
    refine bodyPost_ret (v := .tuple #[.agg #[.string r.cls, .slice A1 r.states.length c1, .int .i64 r.start, .int .i64 r.err, .slice A4 r.moves.length c4], .int .i64 2]) (by simp [results, Tryz.results98, go_sem, y0, y1, y2, y3, y4]) rfl ⟨?_, hbwz⟩
    exact ⟨r.ptc, A1, c1, A4, c4, 2, rfl, ⟨hc1, hs1.mono hbwz, hc4, hs4.mono hbwz, hT1.mono hbwz, hT4.mono hbwz⟩, ifE_two (fun he => by rw [HX.out he]), fun h => by omega⟩
  | true =>
    obtain ⟨hcond, hne⟩ := HB2.out hfb
    have HS := Lib.hid (HST.out hcond)
    have hl1 : 1 < ws.length := by omega
    have HNE := Lib.hid hne
    have HG1 : Hid (ws.getD 1 ⟨#[]⟩ = ws[1]) := by show _ = _; simp [List.getD, hl1]
    clear hfb HB1 HB2 HST hcond hne HG1
    obtain ⟨bW, oW, rfl, hbW, d1⟩ := hw'.str_at hl1
    have p1 := bp1.cell 1 rfl
    have pl := bp1.lt
    have HAT2 : Hid (∀ (y : ByteArray) (x : Later w1), Calls Tryz.prog 79 #[.slice A1 r.states.length c1, .string y] x.W fun e w' => e = .returned (.int .i64 (F y)) ∧ x.W = w') := fun y x => by rw [HF.out]; exact refAt_any A1 c1 r.states y x.W (by omega) (hs1'.later x)
    clear HAT
    have hls' : r.states.length ≤ 100000 := hls
    go_wp2_with fail
    refine wp_region_later (by kernel_rfl) (by kernel_rfl) ?_
    repeat (go_big_quiet_step (first | (go_at_call 79; exact Calls.later_same (HAT2.out _ _))))
    refine wpQuiet_nil ?_
    rintro _ ⟨z, rfl⟩
    have bpz := bp1.mono z.h
    have brz := br1.mono z.h
    have blz := below_step bl1 z.h
    have dz : z.W.cell? ⟨bW, oW + 1, none⟩ = some (.string ws[1]) := keptC d1 hbW z.h
    have hbWz := Nat.lt_of_lt_of_le hbW z.h.size
    clear p1 pl bp1 br1 hs1' hw' d1 hbW HAT2
    generalize z.W = wz at *
    clear z bl1
    have p0 := bpz.cell 0 rfl
    have p1 := bpz.cell 1 rfl
    have p2 := bpz.cell 2 rfl
    have p3 := bpz.cell 3 rfl
    have p4 := bpz.cell 4 rfl
    have pf := fun i => bpz.free i
    have pl := bpz.lt
    have bpy := bpz.set 1 (.slice (some ⟨bW, oW + 1, none⟩) (ws.length - 1) (cW - 1))
    have hgy := grown_set wz w.heap.size 1 (.slice (some ⟨bW, oW + 1, none⟩) (ws.length - 1) (cW - 1))
    have bry := brz.grown hgy (by simp)
    have bly := blz.grown hgy blz.size (fun k hk => by injection hk with hk; omega)
    go_upto_region 14 with fail
    generalize World.setCell wz _ _ = wy at *
    clear p0 p1 p2 p3 p4 pf pl bpz brz blz dz hbWz hgy
    simp only [List.set_cons_zero, List.set_cons_succ] at bpy
    have p0 := bpy.cell 0 rfl
    have p1 := bpy.cell 1 rfl
    have p2 := bpy.cell 2 rfl
    have p3 := bpy.cell 3 rfl
    have p4 := bpy.cell 4 rfl
    have pf := fun i => bpy.free i
    have pl := bpy.lt
    have q0 := bry.cell 0 rfl
    have q1 := bry.cell 1 rfl
    have q2 := bry.cell 2 rfl
    have q3 := bry.cell 3 rfl
    have q4 := bry.cell 4 rfl
    have qf := fun i => bry.free i
    have ql := bry.lt
    obtain ⟨hbz, hgz⟩ := bry.store5 (.string r.cls) (.slice (some ⟨bW, oW + 1, none⟩) (ws.length - 1) (cW - 1)) (.int .i64 r.start) (.int .i64 r.err) (.slice A4 r.moves.length c4)
    have hbwz := bly.grown hgz bly.size (fun k hk => by injection hk with hk; omega)
    have y0 := hbz.cell 0 rfl
    have y1 := hbz.cell 1 rfl
    have y2 := hbz.cell 2 rfl
    have y3 := hbz.cell 3 rfl
    have y4 := hbz.cell 4 rfl
    go_wp2_with fail
    refine bodyPost_ret (v := .tuple #[.agg #[.string r.cls, .slice (some ⟨bW, oW + 1, none⟩) (ws.length - 1) (cW - 1), .int .i64 r.start, .int .i64 r.err, .slice A4 r.moves.length c4], .int .i64 0]) (by simp [results, Tryz.results98, go_sem, y0, y1, y2, y3, y4]) rfl ⟨?_, hbwz⟩
    refine ⟨{ r.ptc with states := ws.tail }, some ⟨bW, oW + 1, none⟩, cW - 1, A4, c4, 0, ?_, ⟨by simp; omega, (slTail hw).mono hbwz, hc4, hs4.mono hbwz, (hTW.mono hbwz).shift, hT4.mono hbwz⟩, ifE_no HNE.out (by rw [HS.out]), fun _ => by rw [HS.out]; rfl⟩
    simp only [List.length_tail]
    rfl
end
end Go.Proofs.YthabojhnliomnaaGreatDoor

namespace Go.Proofs.YthabojhnliomnaaGreatDoor
open Go.RowKit Go.Deep
set_option linter.unusedVariables false
section
variable (r : Rd) (ws : List ByteArray) (A1 A4 AW : Option Addr) (c1 c4 cW : Nat) (w : World)
set_option maxRecDepth 100000 in
set_option maxHeartbeats 4000000 in
theorem refHead2 (h0 : 0 < ws.length) (hl : ws.length ≤ 100000) (hcW : ws.length ≤ cW) (hst : r.stage = 2) (hls : r.states.length ≤ 100000) (hc1 : r.states.length ≤ c1) (hs1 : Sl Lay.str w A1 r.states) (hc4 : r.moves.length ≤ c4) (hs4 : Sl Lay.mov w A4 r.moves) (hw : Sl Lay.str w AW ws) (hT1 : BlkTy w A1 9) (hT4 : BlkTy w A4 103) (hTW : BlkTy w AW 9) :
    Calls Tryz.prog 98 #[.agg #[.string r.cls, .slice A1 r.states.length c1, .int .i64 r.start, .int .i64 r.err, .slice A4 r.moves.length c4], .int .i64 2, .slice AW ws.length cW] w fun e w' => RetHd r ws w' e ∧ Below w.heap.size w w' := by
  have HFM : Hid (∀ W, Below w.heap.size w W → Calls Tryz.prog 99 #[.slice AW ws.length cW, .string ⟨#[115, 116, 97, 114, 116]⟩, .int .i64 2] W fun e w' => e = .returned (.bool (formB ws [115, 116, 97, 114, 116] 2)) ∧ W = w') := fun W hW => refForm_any AW cW ws ⟨#[115, 116, 97, 114, 116]⟩ 2 W h0 hl (by omega) (hw.mono hW)
  have HB1 : Hid (formB ws [115, 116, 97, 114, 116] 2 = false → hasE ws = false → stepR r ws = (r, 2)) := fun h he => by
    have h1 : ¬ (toL (ws.headD ⟨#[]⟩) = [115, 116, 97, 114, 116] ∧ ws.length = 2) := fun hc => by
      have := formB_iff (by omega) (ws := ws) (f := [115, 116, 97, 114, 116]) |>.2 ⟨hc, he⟩
      rw [h] at this
      cases this
    unfold stepR
    rw [hst]
    simp only
    rw [if_neg h1]
  have HB2 : Hid (formB ws [115, 116, 97, 114, 116] 2 = true → ((toL (ws.headD ⟨#[]⟩) = [115, 116, 97, 114, 116] ∧ ws.length = 2) ∧ hasE ws = false)) := fun h => formB_iff (by omega) |>.1 h
  have HST : Hid ((toL (ws.headD ⟨#[]⟩) = [115, 116, 97, 114, 116] ∧ ws.length = 2) → stepR r ws = if 0 ≤ atI r.states (ws.getD 1 ⟨#[]⟩) then ({ r with start := atI r.states (ws.getD 1 ⟨#[]⟩), stage := 3 }, 0) else ({ r with start := atI r.states (ws.getD 1 ⟨#[]⟩), stage := 2 }, 6)) := fun h => by
    unfold stepR
    rw [hst]
    simp only
    rw [if_pos h]
  clear hst
  have HAT : Hid (∀ (y : ByteArray) (x : Later w), Calls Tryz.prog 79 #[.slice A1 r.states.length c1, .string y] x.W fun e w' => e = .returned (.int .i64 (atI r.states y)) ∧ x.W = w') := fun y x => refAt_any A1 c1 r.states y x.W (by omega) (hs1.later x)
  obtain ⟨F, HF⟩ : ∃ F : ByteArray → Int, Hid (F = atI r.states) := ⟨_, Lib.hid rfl⟩
  rw [← HF.out] at HAT HST
  go_enter Tryz.func98, Tryz.ntmps98
  go_upto_region 5 with fail
  have bp1 : Box (((w.alloc (.cells #[.string r.cls, .slice A1 r.states.length c1, .int .i64 r.start, .int .i64 r.err, .slice A4 r.moves.length c4] 63)).alloc (.cells #[.string ⟨#[]⟩, .slice none 0 0, .int .i64 0, .int .i64 0, .slice none 0 0] 63)).alloc (.cells #[.string ⟨#[112, 114, 111, 116, 111, 99, 111, 108]⟩, .string ⟨#[115, 116, 97, 116, 101, 115]⟩, .string ⟨#[115, 116, 97, 114, 116]⟩, .string ⟨#[101, 114, 114, 111, 114]⟩] 9)) w.heap.size [.string r.cls, .slice A1 r.states.length c1, .int .i64 r.start, .int .i64 r.err, .slice A4 r.moves.length c4] 63 := (by repeat (first | (refine Box.at ?_; (simp; done)) | apply Box.drew | apply Box.alloc | assumption))
  have br1 : Box (((w.alloc (.cells #[.string r.cls, .slice A1 r.states.length c1, .int .i64 r.start, .int .i64 r.err, .slice A4 r.moves.length c4] 63)).alloc (.cells #[.string ⟨#[]⟩, .slice none 0 0, .int .i64 0, .int .i64 0, .slice none 0 0] 63)).alloc (.cells #[.string ⟨#[112, 114, 111, 116, 111, 99, 111, 108]⟩, .string ⟨#[115, 116, 97, 116, 101, 115]⟩, .string ⟨#[115, 116, 97, 114, 116]⟩, .string ⟨#[101, 114, 114, 111, 114]⟩] 9)) (w.heap.size + 1) [.string ⟨#[]⟩, .slice none 0 0, .int .i64 0, .int .i64 0, .slice none 0 0] 63 := (by repeat (first | (refine Box.at ?_; (simp; done)) | apply Box.drew | apply Box.alloc | assumption))
  have bn1 : Box (((w.alloc (.cells #[.string r.cls, .slice A1 r.states.length c1, .int .i64 r.start, .int .i64 r.err, .slice A4 r.moves.length c4] 63)).alloc (.cells #[.string ⟨#[]⟩, .slice none 0 0, .int .i64 0, .int .i64 0, .slice none 0 0] 63)).alloc (.cells #[.string ⟨#[112, 114, 111, 116, 111, 99, 111, 108]⟩, .string ⟨#[115, 116, 97, 116, 101, 115]⟩, .string ⟨#[115, 116, 97, 114, 116]⟩, .string ⟨#[101, 114, 114, 111, 114]⟩] 9)) (w.heap.size + 2) [.string ⟨#[112, 114, 111, 116, 111, 99, 111, 108]⟩, .string ⟨#[115, 116, 97, 116, 101, 115]⟩, .string ⟨#[115, 116, 97, 114, 116]⟩, .string ⟨#[101, 114, 114, 111, 114]⟩] 9 := (by repeat (first | (refine Box.at ?_; (simp; done)) | apply Box.drew | apply Box.alloc | assumption))
  have bl1 : Below w.heap.size w (((w.alloc (.cells #[.string r.cls, .slice A1 r.states.length c1, .int .i64 r.start, .int .i64 r.err, .slice A4 r.moves.length c4] 63)).alloc (.cells #[.string ⟨#[]⟩, .slice none 0 0, .int .i64 0, .int .i64 0, .slice none 0 0] 63)).alloc (.cells #[.string ⟨#[112, 114, 111, 116, 111, 99, 111, 108]⟩, .string ⟨#[115, 116, 97, 116, 101, 115]⟩, .string ⟨#[115, 116, 97, 114, 116]⟩, .string ⟨#[101, 114, 114, 111, 114]⟩] 9)) := (by repeat (first | assumption | exact Below.refl _ _ | apply bw_alloc | apply bw_drew | apply bw_drewN | apply bw_later | apply bw_step))
  generalize World.alloc (World.alloc (World.alloc w _) _) _ = w1 at *
  have hs1' := hs1.mono bl1
  have hw' := hw.mono bl1
  have n0 := bn1.cell 2 rfl
  have nl := bn1.lt
  go_wp2_with fail
  refine (HFM.out _ bl1).mono ?_
  rintro e w2 ⟨rfl, rfl⟩
  clear n0 nl bn1 HFM
  cases hfb : formB ws [115, 116, 97, 114, 116] 2 with
  | false =>
    have HX := Lib.hid (HB1.out hfb)
    clear hfb HB1 HB2
    have p0 := bp1.cell 0 rfl
    have p1 := bp1.cell 1 rfl
    have p2 := bp1.cell 2 rfl
    have p3 := bp1.cell 3 rfl
    have p4 := bp1.cell 4 rfl
    have pf := fun i => bp1.free i
    have pl := bp1.lt
    have q0 := br1.cell 0 rfl
    have q1 := br1.cell 1 rfl
    have q2 := br1.cell 2 rfl
    have q3 := br1.cell 3 rfl
    have q4 := br1.cell 4 rfl
    have qf := fun i => br1.free i
    have ql := br1.lt
    obtain ⟨hbz, hgz⟩ := br1.store5 (.string r.cls) (.slice A1 r.states.length c1) (.int .i64 r.start) (.int .i64 r.err) (.slice A4 r.moves.length c4)
    have hbwz := bl1.grown hgz bl1.size (fun k hk => by injection hk with hk; omega)
    have y0 := hbz.cell 0 rfl
    have y1 := hbz.cell 1 rfl
    have y2 := hbz.cell 2 rfl
    have y3 := hbz.cell 3 rfl
    have y4 := hbz.cell 4 rfl
    go_wp2_with fail
    refine bodyPost_ret (v := .tuple #[.agg #[.string r.cls, .slice A1 r.states.length c1, .int .i64 r.start, .int .i64 r.err, .slice A4 r.moves.length c4], .int .i64 2]) (by simp [results, Tryz.results98, go_sem, y0, y1, y2, y3, y4]) rfl ⟨?_, hbwz⟩
    exact ⟨r.ptc, A1, c1, A4, c4, 2, rfl, ⟨hc1, hs1.mono hbwz, hc4, hs4.mono hbwz, hT1.mono hbwz, hT4.mono hbwz⟩, ifE_two (fun he => by rw [HX.out he]), fun h => by omega⟩
  | true =>
    obtain ⟨hcond, hne⟩ := HB2.out hfb
    have HS := Lib.hid (HST.out hcond)
    have hl1 : 1 < ws.length := by omega
    have HNE := Lib.hid hne
    have HG1 : Hid (ws.getD 1 ⟨#[]⟩ = ws[1]) := by show _ = _; simp [List.getD, hl1]
    rw [HG1.out] at HS
    clear hfb HB1 HB2 HST hcond hne HG1
    obtain ⟨bW, oW, rfl, hbW, d1⟩ := hw'.str_at hl1
    have p1 := bp1.cell 1 rfl
    have pl := bp1.lt
    have HAT2 : Hid (∀ (y : ByteArray) (x : Later w1), Calls Tryz.prog 79 #[.slice A1 r.states.length c1, .string y] x.W fun e w' => e = .returned (.int .i64 (F y)) ∧ x.W = w') := fun y x => by rw [HF.out]; exact refAt_any A1 c1 r.states y x.W (by omega) (hs1'.later x)
    clear HAT
    have hls' : r.states.length ≤ 100000 := hls
    go_wp2_with fail
    refine wp_region_later (by kernel_rfl) (by kernel_rfl) ?_
    repeat (go_big_quiet_step (first | (go_at_call 79; exact Calls.later_same (HAT2.out _ _))))
    refine wpQuiet_nil ?_
    rintro _ ⟨z, rfl⟩
    have bpz := bp1.mono z.h
    have brz := br1.mono z.h
    have blz := below_step bl1 z.h
    have dz : z.W.cell? ⟨bW, oW + 1, none⟩ = some (.string ws[1]) := keptC d1 hbW z.h
    have hbWz := Nat.lt_of_lt_of_le hbW z.h.size
    clear p1 pl bp1 br1 hs1' hw' d1 hbW HAT2
    generalize z.W = wz at *
    clear z bl1
    generalize F ws[1] = kq at *
    by_cases hk : (0 : Int) ≤ kq
    · have HR : Hid (stepR r ws = ({ r with start := kq, stage := 3 }, 0)) := by show _ = _; rw [HS.out, if_pos hk]
      have hkn : ¬ kq < 0 := by omega
      clear hk
      have p0 := bpz.cell 0 rfl
      have p1 := bpz.cell 1 rfl
      have p2 := bpz.cell 2 rfl
      have p3 := bpz.cell 3 rfl
      have p4 := bpz.cell 4 rfl
      have pf := fun i => bpz.free i
      have pl := bpz.lt
      have bpy := bpz.set 2 (.int .i64 kq)
      have hgy := grown_set wz w.heap.size 2 (.int .i64 kq)
      have bry := brz.grown hgy (by simp)
      have bly := blz.grown hgy blz.size (fun k hk => by injection hk with hk; omega)
      go_upto_region 19 with fail
      generalize World.setCell wz _ _ = wy at *
      clear p0 p1 p2 p3 p4 pf pl bpz brz blz dz hbWz hgy
      simp only [List.set_cons_zero, List.set_cons_succ] at bpy
      have p0 := bpy.cell 0 rfl
      have p1 := bpy.cell 1 rfl
      have p2 := bpy.cell 2 rfl
      have p3 := bpy.cell 3 rfl
      have p4 := bpy.cell 4 rfl
      have pf := fun i => bpy.free i
      have pl := bpy.lt
      have q0 := bry.cell 0 rfl
      have q1 := bry.cell 1 rfl
      have q2 := bry.cell 2 rfl
      have q3 := bry.cell 3 rfl
      have q4 := bry.cell 4 rfl
      have qf := fun i => bry.free i
      have ql := bry.lt
      obtain ⟨hbz, hgz⟩ := bry.store5 (.string r.cls) (.slice A1 r.states.length c1) (.int .i64 kq) (.int .i64 r.err) (.slice A4 r.moves.length c4)
      have hbwz := bly.grown hgz bly.size (fun k hk => by injection hk with hk; omega)
      have y0 := hbz.cell 0 rfl
      have y1 := hbz.cell 1 rfl
      have y2 := hbz.cell 2 rfl
      have y3 := hbz.cell 3 rfl
      have y4 := hbz.cell 4 rfl
      go_wp2_with fail
      refine bodyPost_ret (v := .tuple #[.agg #[.string r.cls, .slice A1 r.states.length c1, .int .i64 kq, .int .i64 r.err, .slice A4 r.moves.length c4], .int .i64 0]) (by simp [results, Tryz.results98, go_sem, y0, y1, y2, y3, y4]) rfl ⟨?_, hbwz⟩
      exact ⟨{ r.ptc with start := kq }, A1, c1, A4, c4, 0, rfl, ⟨hc1, hs1.mono hbwz, hc4, hs4.mono hbwz, hT1.mono hbwz, hT4.mono hbwz⟩, ifE_no HNE.out (by rw [HR.out]), fun _ => by rw [HR.out]; rfl⟩
    · have HR : Hid (stepR r ws = ({ r with start := kq, stage := 2 }, 6)) := by show _ = _; rw [HS.out, if_neg hk]
      have hkn : kq < 0 := by omega
      clear hk
      have p0 := bpz.cell 0 rfl
      have p1 := bpz.cell 1 rfl
      have p2 := bpz.cell 2 rfl
      have p3 := bpz.cell 3 rfl
      have p4 := bpz.cell 4 rfl
      have pf := fun i => bpz.free i
      have pl := bpz.lt
      have bpy := bpz.set 2 (.int .i64 kq)
      have hgy := grown_set wz w.heap.size 2 (.int .i64 kq)
      have bry := brz.grown hgy (by simp)
      have bly := blz.grown hgy blz.size (fun k hk => by injection hk with hk; omega)
      go_upto_region 19 with fail
      generalize World.setCell wz _ _ = wy at *
      clear p0 p1 p2 p3 p4 pf pl bpz brz blz dz hbWz hgy
      simp only [List.set_cons_zero, List.set_cons_succ] at bpy
      have p0 := bpy.cell 0 rfl
      have p1 := bpy.cell 1 rfl
      have p2 := bpy.cell 2 rfl
      have p3 := bpy.cell 3 rfl
      have p4 := bpy.cell 4 rfl
      have pf := fun i => bpy.free i
      have pl := bpy.lt
      have q0 := bry.cell 0 rfl
      have q1 := bry.cell 1 rfl
      have q2 := bry.cell 2 rfl
      have q3 := bry.cell 3 rfl
      have q4 := bry.cell 4 rfl
      have qf := fun i => bry.free i
      have ql := bry.lt
      obtain ⟨hbz, hgz⟩ := bry.store5 (.string r.cls) (.slice A1 r.states.length c1) (.int .i64 kq) (.int .i64 r.err) (.slice A4 r.moves.length c4)
      have hbwz := bly.grown hgz bly.size (fun k hk => by injection hk with hk; omega)
      have y0 := hbz.cell 0 rfl
      have y1 := hbz.cell 1 rfl
      have y2 := hbz.cell 2 rfl
      have y3 := hbz.cell 3 rfl
      have y4 := hbz.cell 4 rfl
      go_wp2_with fail
      refine bodyPost_ret (v := .tuple #[.agg #[.string r.cls, .slice A1 r.states.length c1, .int .i64 kq, .int .i64 r.err, .slice A4 r.moves.length c4], .int .i64 6]) (by simp [results, Tryz.results98, go_sem, y0, y1, y2, y3, y4]) rfl ⟨?_, hbwz⟩
      exact ⟨{ r.ptc with start := kq }, A1, c1, A4, c4, 6, rfl, ⟨hc1, hs1.mono hbwz, hc4, hs4.mono hbwz, hT1.mono hbwz, hT4.mono hbwz⟩, ifE_no HNE.out (by rw [HR.out]), fun h => by omega⟩
end
end Go.Proofs.YthabojhnliomnaaGreatDoor

namespace Go.Proofs.YthabojhnliomnaaGreatDoor
open Go.RowKit Go.Deep
set_option linter.unusedVariables false
section
variable (r : Rd) (ws : List ByteArray) (A1 A4 AW : Option Addr) (c1 c4 cW : Nat) (w : World)
set_option maxRecDepth 100000 in
set_option maxHeartbeats 4000000 in
theorem refHead3 (h0 : 0 < ws.length) (hl : ws.length ≤ 100000) (hcW : ws.length ≤ cW) (hst : r.stage = 3) (hls : r.states.length ≤ 100000) (hc1 : r.states.length ≤ c1) (hs1 : Sl Lay.str w A1 r.states) (hc4 : r.moves.length ≤ c4) (hs4 : Sl Lay.mov w A4 r.moves) (hw : Sl Lay.str w AW ws) (hT1 : BlkTy w A1 9) (hT4 : BlkTy w A4 103) (hTW : BlkTy w AW 9) :
    Calls Tryz.prog 98 #[.agg #[.string r.cls, .slice A1 r.states.length c1, .int .i64 r.start, .int .i64 r.err, .slice A4 r.moves.length c4], .int .i64 3, .slice AW ws.length cW] w fun e w' => RetHd r ws w' e ∧ Below w.heap.size w w' := by
  have HFM : Hid (∀ W, Below w.heap.size w W → Calls Tryz.prog 99 #[.slice AW ws.length cW, .string ⟨#[101, 114, 114, 111, 114]⟩, .int .i64 2] W fun e w' => e = .returned (.bool (formB ws [101, 114, 114, 111, 114] 2)) ∧ W = w') := fun W hW => refForm_any AW cW ws ⟨#[101, 114, 114, 111, 114]⟩ 2 W h0 hl (by omega) (hw.mono hW)
  have HB1 : Hid (formB ws [101, 114, 114, 111, 114] 2 = false → hasE ws = false → stepR r ws = (r, 2)) := fun h he => by
    have h1 : ¬ (toL (ws.headD ⟨#[]⟩) = [101, 114, 114, 111, 114] ∧ ws.length = 2) := fun hc => by
      have := formB_iff (by omega) (ws := ws) (f := [101, 114, 114, 111, 114]) |>.2 ⟨hc, he⟩
      rw [h] at this
      cases this
    unfold stepR
    rw [hst]
    simp only
    rw [if_neg h1]
  have HB2 : Hid (formB ws [101, 114, 114, 111, 114] 2 = true → ((toL (ws.headD ⟨#[]⟩) = [101, 114, 114, 111, 114] ∧ ws.length = 2) ∧ hasE ws = false)) := fun h => formB_iff (by omega) |>.1 h
  have HST : Hid ((toL (ws.headD ⟨#[]⟩) = [101, 114, 114, 111, 114] ∧ ws.length = 2) → stepR r ws = if 0 ≤ atI r.states (ws.getD 1 ⟨#[]⟩) then ({ r with err := atI r.states (ws.getD 1 ⟨#[]⟩), stage := 4 }, 0) else ({ r with err := atI r.states (ws.getD 1 ⟨#[]⟩), stage := 3 }, 6)) := fun h => by
    unfold stepR
    rw [hst]
    simp only
    rw [if_pos h]
  clear hst
  have HAT : Hid (∀ (y : ByteArray) (x : Later w), Calls Tryz.prog 79 #[.slice A1 r.states.length c1, .string y] x.W fun e w' => e = .returned (.int .i64 (atI r.states y)) ∧ x.W = w') := fun y x => refAt_any A1 c1 r.states y x.W (by omega) (hs1.later x)
  obtain ⟨F, HF⟩ : ∃ F : ByteArray → Int, Hid (F = atI r.states) := ⟨_, Lib.hid rfl⟩
  rw [← HF.out] at HAT HST
  go_enter Tryz.func98, Tryz.ntmps98
  go_upto_region 5 with fail
  have bp1 : Box (((w.alloc (.cells #[.string r.cls, .slice A1 r.states.length c1, .int .i64 r.start, .int .i64 r.err, .slice A4 r.moves.length c4] 63)).alloc (.cells #[.string ⟨#[]⟩, .slice none 0 0, .int .i64 0, .int .i64 0, .slice none 0 0] 63)).alloc (.cells #[.string ⟨#[112, 114, 111, 116, 111, 99, 111, 108]⟩, .string ⟨#[115, 116, 97, 116, 101, 115]⟩, .string ⟨#[115, 116, 97, 114, 116]⟩, .string ⟨#[101, 114, 114, 111, 114]⟩] 9)) w.heap.size [.string r.cls, .slice A1 r.states.length c1, .int .i64 r.start, .int .i64 r.err, .slice A4 r.moves.length c4] 63 := (by repeat (first | (refine Box.at ?_; (simp; done)) | apply Box.drew | apply Box.alloc | assumption))
  have br1 : Box (((w.alloc (.cells #[.string r.cls, .slice A1 r.states.length c1, .int .i64 r.start, .int .i64 r.err, .slice A4 r.moves.length c4] 63)).alloc (.cells #[.string ⟨#[]⟩, .slice none 0 0, .int .i64 0, .int .i64 0, .slice none 0 0] 63)).alloc (.cells #[.string ⟨#[112, 114, 111, 116, 111, 99, 111, 108]⟩, .string ⟨#[115, 116, 97, 116, 101, 115]⟩, .string ⟨#[115, 116, 97, 114, 116]⟩, .string ⟨#[101, 114, 114, 111, 114]⟩] 9)) (w.heap.size + 1) [.string ⟨#[]⟩, .slice none 0 0, .int .i64 0, .int .i64 0, .slice none 0 0] 63 := (by repeat (first | (refine Box.at ?_; (simp; done)) | apply Box.drew | apply Box.alloc | assumption))
  have bn1 : Box (((w.alloc (.cells #[.string r.cls, .slice A1 r.states.length c1, .int .i64 r.start, .int .i64 r.err, .slice A4 r.moves.length c4] 63)).alloc (.cells #[.string ⟨#[]⟩, .slice none 0 0, .int .i64 0, .int .i64 0, .slice none 0 0] 63)).alloc (.cells #[.string ⟨#[112, 114, 111, 116, 111, 99, 111, 108]⟩, .string ⟨#[115, 116, 97, 116, 101, 115]⟩, .string ⟨#[115, 116, 97, 114, 116]⟩, .string ⟨#[101, 114, 114, 111, 114]⟩] 9)) (w.heap.size + 2) [.string ⟨#[112, 114, 111, 116, 111, 99, 111, 108]⟩, .string ⟨#[115, 116, 97, 116, 101, 115]⟩, .string ⟨#[115, 116, 97, 114, 116]⟩, .string ⟨#[101, 114, 114, 111, 114]⟩] 9 := (by repeat (first | (refine Box.at ?_; (simp; done)) | apply Box.drew | apply Box.alloc | assumption))
  have bl1 : Below w.heap.size w (((w.alloc (.cells #[.string r.cls, .slice A1 r.states.length c1, .int .i64 r.start, .int .i64 r.err, .slice A4 r.moves.length c4] 63)).alloc (.cells #[.string ⟨#[]⟩, .slice none 0 0, .int .i64 0, .int .i64 0, .slice none 0 0] 63)).alloc (.cells #[.string ⟨#[112, 114, 111, 116, 111, 99, 111, 108]⟩, .string ⟨#[115, 116, 97, 116, 101, 115]⟩, .string ⟨#[115, 116, 97, 114, 116]⟩, .string ⟨#[101, 114, 114, 111, 114]⟩] 9)) := (by repeat (first | assumption | exact Below.refl _ _ | apply bw_alloc | apply bw_drew | apply bw_drewN | apply bw_later | apply bw_step))
  generalize World.alloc (World.alloc (World.alloc w _) _) _ = w1 at *
  have hs1' := hs1.mono bl1
  have hw' := hw.mono bl1
  have n0 := bn1.cell 3 rfl
  have nl := bn1.lt
  go_wp2_with fail
  refine (HFM.out _ bl1).mono ?_
  rintro e w2 ⟨rfl, rfl⟩
  clear n0 nl bn1 HFM
  cases hfb : formB ws [101, 114, 114, 111, 114] 2 with
  | false =>
    have HX := Lib.hid (HB1.out hfb)
    clear hfb HB1 HB2
    have p0 := bp1.cell 0 rfl
    have p1 := bp1.cell 1 rfl
    have p2 := bp1.cell 2 rfl
    have p3 := bp1.cell 3 rfl
    have p4 := bp1.cell 4 rfl
    have pf := fun i => bp1.free i
    have pl := bp1.lt
    have q0 := br1.cell 0 rfl
    have q1 := br1.cell 1 rfl
    have q2 := br1.cell 2 rfl
    have q3 := br1.cell 3 rfl
    have q4 := br1.cell 4 rfl
    have qf := fun i => br1.free i
    have ql := br1.lt
    obtain ⟨hbz, hgz⟩ := br1.store5 (.string r.cls) (.slice A1 r.states.length c1) (.int .i64 r.start) (.int .i64 r.err) (.slice A4 r.moves.length c4)
    have hbwz := bl1.grown hgz bl1.size (fun k hk => by injection hk with hk; omega)
    have y0 := hbz.cell 0 rfl
    have y1 := hbz.cell 1 rfl
    have y2 := hbz.cell 2 rfl
    have y3 := hbz.cell 3 rfl
    have y4 := hbz.cell 4 rfl
    go_wp2_with fail
    refine bodyPost_ret (v := .tuple #[.agg #[.string r.cls, .slice A1 r.states.length c1, .int .i64 r.start, .int .i64 r.err, .slice A4 r.moves.length c4], .int .i64 2]) (by simp [results, Tryz.results98, go_sem, y0, y1, y2, y3, y4]) rfl ⟨?_, hbwz⟩
    exact ⟨r.ptc, A1, c1, A4, c4, 2, rfl, ⟨hc1, hs1.mono hbwz, hc4, hs4.mono hbwz, hT1.mono hbwz, hT4.mono hbwz⟩, ifE_two (fun he => by rw [HX.out he]), fun h => by omega⟩
  | true =>
    obtain ⟨hcond, hne⟩ := HB2.out hfb
    have HS := Lib.hid (HST.out hcond)
    have hl1 : 1 < ws.length := by omega
    have HNE := Lib.hid hne
    have HG1 : Hid (ws.getD 1 ⟨#[]⟩ = ws[1]) := by show _ = _; simp [List.getD, hl1]
    rw [HG1.out] at HS
    clear hfb HB1 HB2 HST hcond hne HG1
    obtain ⟨bW, oW, rfl, hbW, d1⟩ := hw'.str_at hl1
    have p1 := bp1.cell 1 rfl
    have pl := bp1.lt
    have HAT2 : Hid (∀ (y : ByteArray) (x : Later w1), Calls Tryz.prog 79 #[.slice A1 r.states.length c1, .string y] x.W fun e w' => e = .returned (.int .i64 (F y)) ∧ x.W = w') := fun y x => by rw [HF.out]; exact refAt_any A1 c1 r.states y x.W (by omega) (hs1'.later x)
    clear HAT
    have hls' : r.states.length ≤ 100000 := hls
    go_wp2_with fail
    refine wp_region_later (by kernel_rfl) (by kernel_rfl) ?_
    repeat (go_big_quiet_step (first | (go_at_call 79; exact Calls.later_same (HAT2.out _ _))))
    refine wpQuiet_nil ?_
    rintro _ ⟨z, rfl⟩
    have bpz := bp1.mono z.h
    have brz := br1.mono z.h
    have blz := below_step bl1 z.h
    have dz : z.W.cell? ⟨bW, oW + 1, none⟩ = some (.string ws[1]) := keptC d1 hbW z.h
    have hbWz := Nat.lt_of_lt_of_le hbW z.h.size
    clear p1 pl bp1 br1 hs1' hw' d1 hbW HAT2
    generalize z.W = wz at *
    clear z bl1
    generalize F ws[1] = kq at *
    by_cases hk : (0 : Int) ≤ kq
    · have HR : Hid (stepR r ws = ({ r with err := kq, stage := 4 }, 0)) := by show _ = _; rw [HS.out, if_pos hk]
      have hkn : ¬ kq < 0 := by omega
      clear hk
      have p0 := bpz.cell 0 rfl
      have p1 := bpz.cell 1 rfl
      have p2 := bpz.cell 2 rfl
      have p3 := bpz.cell 3 rfl
      have p4 := bpz.cell 4 rfl
      have pf := fun i => bpz.free i
      have pl := bpz.lt
      have bpy := bpz.set 3 (.int .i64 kq)
      have hgy := grown_set wz w.heap.size 3 (.int .i64 kq)
      have bry := brz.grown hgy (by simp)
      have bly := blz.grown hgy blz.size (fun k hk => by injection hk with hk; omega)
      go_upto_region 19 with fail
      generalize World.setCell wz _ _ = wy at *
      clear p0 p1 p2 p3 p4 pf pl bpz brz blz dz hbWz hgy
      simp only [List.set_cons_zero, List.set_cons_succ] at bpy
      have p0 := bpy.cell 0 rfl
      have p1 := bpy.cell 1 rfl
      have p2 := bpy.cell 2 rfl
      have p3 := bpy.cell 3 rfl
      have p4 := bpy.cell 4 rfl
      have pf := fun i => bpy.free i
      have pl := bpy.lt
      have q0 := bry.cell 0 rfl
      have q1 := bry.cell 1 rfl
      have q2 := bry.cell 2 rfl
      have q3 := bry.cell 3 rfl
      have q4 := bry.cell 4 rfl
      have qf := fun i => bry.free i
      have ql := bry.lt
      obtain ⟨hbz, hgz⟩ := bry.store5 (.string r.cls) (.slice A1 r.states.length c1) (.int .i64 r.start) (.int .i64 kq) (.slice A4 r.moves.length c4)
      have hbwz := bly.grown hgz bly.size (fun k hk => by injection hk with hk; omega)
      have y0 := hbz.cell 0 rfl
      have y1 := hbz.cell 1 rfl
      have y2 := hbz.cell 2 rfl
      have y3 := hbz.cell 3 rfl
      have y4 := hbz.cell 4 rfl
      go_wp2_with fail
      refine bodyPost_ret (v := .tuple #[.agg #[.string r.cls, .slice A1 r.states.length c1, .int .i64 r.start, .int .i64 kq, .slice A4 r.moves.length c4], .int .i64 0]) (by simp [results, Tryz.results98, go_sem, y0, y1, y2, y3, y4]) rfl ⟨?_, hbwz⟩
      exact ⟨{ r.ptc with err := kq }, A1, c1, A4, c4, 0, rfl, ⟨hc1, hs1.mono hbwz, hc4, hs4.mono hbwz, hT1.mono hbwz, hT4.mono hbwz⟩, ifE_no HNE.out (by rw [HR.out]), fun _ => by rw [HR.out]; rfl⟩
    · have HR : Hid (stepR r ws = ({ r with err := kq, stage := 3 }, 6)) := by show _ = _; rw [HS.out, if_neg hk]
      have hkn : kq < 0 := by omega
      clear hk
      have p0 := bpz.cell 0 rfl
      have p1 := bpz.cell 1 rfl
      have p2 := bpz.cell 2 rfl
      have p3 := bpz.cell 3 rfl
      have p4 := bpz.cell 4 rfl
      have pf := fun i => bpz.free i
      have pl := bpz.lt
      have bpy := bpz.set 3 (.int .i64 kq)
      have hgy := grown_set wz w.heap.size 3 (.int .i64 kq)
      have bry := brz.grown hgy (by simp)
      have bly := blz.grown hgy blz.size (fun k hk => by injection hk with hk; omega)
      go_upto_region 19 with fail
      generalize World.setCell wz _ _ = wy at *
      clear p0 p1 p2 p3 p4 pf pl bpz brz blz dz hbWz hgy
      simp only [List.set_cons_zero, List.set_cons_succ] at bpy
      have p0 := bpy.cell 0 rfl
      have p1 := bpy.cell 1 rfl
      have p2 := bpy.cell 2 rfl
      have p3 := bpy.cell 3 rfl
      have p4 := bpy.cell 4 rfl
      have pf := fun i => bpy.free i
      have pl := bpy.lt
      have q0 := bry.cell 0 rfl
      have q1 := bry.cell 1 rfl
      have q2 := bry.cell 2 rfl
      have q3 := bry.cell 3 rfl
      have q4 := bry.cell 4 rfl
      have qf := fun i => bry.free i
      have ql := bry.lt
      obtain ⟨hbz, hgz⟩ := bry.store5 (.string r.cls) (.slice A1 r.states.length c1) (.int .i64 r.start) (.int .i64 kq) (.slice A4 r.moves.length c4)
      have hbwz := bly.grown hgz bly.size (fun k hk => by injection hk with hk; omega)
      have y0 := hbz.cell 0 rfl
      have y1 := hbz.cell 1 rfl
      have y2 := hbz.cell 2 rfl
      have y3 := hbz.cell 3 rfl
      have y4 := hbz.cell 4 rfl
      go_wp2_with fail
      refine bodyPost_ret (v := .tuple #[.agg #[.string r.cls, .slice A1 r.states.length c1, .int .i64 r.start, .int .i64 kq, .slice A4 r.moves.length c4], .int .i64 6]) (by simp [results, Tryz.results98, go_sem, y0, y1, y2, y3, y4]) rfl ⟨?_, hbwz⟩
      exact ⟨{ r.ptc with err := kq }, A1, c1, A4, c4, 6, rfl, ⟨hc1, hs1.mono hbwz, hc4, hs4.mono hbwz, hT1.mono hbwz, hT4.mono hbwz⟩, ifE_no HNE.out (by rw [HR.out]), fun h => by omega⟩
end
end Go.Proofs.YthabojhnliomnaaGreatDoor

namespace Go.Proofs.YthabojhnliomnaaGreatDoor
open Go.RowKit Go.Deep
set_option linter.unusedVariables false
set_option maxRecDepth 100000 in
set_option maxHeartbeats 8000000 in
theorem refMove_any (r : Rd) (ws : List ByteArray) (A1 A4 AW : Option Addr) (c1 c4 cW : Nat) (w : World) (h0 : 0 < ws.length) (hl : ws.length ≤ 100000) (hst : r.stage = 4) (hls : r.states.length ≤ 100000) (hlm : r.moves.length ≤ 100000) (hE : Hid (formB ws [101, 110, 100] 1 = false)) (hc1 : r.states.length ≤ c1) (hs1 : Sl Lay.str w A1 r.states) (hc4 : r.moves.length ≤ c4) (hs4 : Sl Lay.mov w A4 r.moves) (hw : Sl Lay.str w AW ws) (hT1 : BlkTy w A1 9) (hT4 : BlkTy w A4 103) :
    Calls Tryz.prog 100 #[.agg #[.string r.cls, .slice A1 r.states.length c1, .int .i64 r.start, .int .i64 r.err, .slice A4 r.moves.length c4], .slice AW ws.length cW] w fun e w' => RetHd r ws w' e ∧ Below w.heap.size w w' := by
  have HFM : Hid (∀ W, Below w.heap.size w W → Calls Tryz.prog 99 #[.slice AW ws.length cW, .string ⟨#[109, 111, 118, 101]⟩, .int .i64 4] W fun e w' => e = .returned (.bool (formB ws [109, 111, 118, 101] 4)) ∧ W = w') := fun W hW => refForm_any AW cW ws ⟨#[109, 111, 118, 101]⟩ 4 W h0 hl (by omega) (hw.mono hW)
  have HNE : Hid (hasE ws = false → ¬ (toL (ws.headD ⟨#[]⟩) = [101, 110, 100] ∧ ws.length = 1)) := fun he hc => by
    have := (formB_iff (by omega)).2 ⟨hc, he⟩
    rw [hE.out] at this
    cases this
  have HB1 : Hid (formB ws [109, 111, 118, 101] 4 = false → hasE ws = false → stepR r ws = (r, 2)) := fun h he => by
    have h1 : ¬ (toL (ws.headD ⟨#[]⟩) = [109, 111, 118, 101] ∧ ws.length = 4) := fun hc => by
      have := (formB_iff (by omega)).2 ⟨hc, he⟩
      rw [h] at this
      cases this
    unfold stepR
    rw [hst]
    simp only
    rw [if_neg (HNE.out he), if_neg h1]
  have HB2 : Hid (formB ws [109, 111, 118, 101] 4 = true → ((toL (ws.headD ⟨#[]⟩) = [109, 111, 118, 101] ∧ ws.length = 4) ∧ hasE ws = false)) := fun h => (formB_iff (by omega)).1 h
  have HST : Hid ((toL (ws.headD ⟨#[]⟩) = [109, 111, 118, 101] ∧ ws.length = 4) → hasE ws = false → stepR r ws = if 0 ≤ atI r.states (ws.getD 1 ⟨#[]⟩) ∧ 0 ≤ atI r.states (ws.getD 3 ⟨#[]⟩) then ({ r with moves := r.moves ++ [⟨atI r.states (ws.getD 1 ⟨#[]⟩), ws.getD 2 ⟨#[]⟩, atI r.states (ws.getD 3 ⟨#[]⟩)⟩] }, 0) else (r, 6)) := fun h he => by
    unfold stepR
    rw [hst]
    simp only
    rw [if_neg (HNE.out he), if_pos h]
  clear hst hE HNE
  obtain ⟨F, HF⟩ : ∃ F : ByteArray → Int, Hid (F = atI r.states) := ⟨_, Lib.hid rfl⟩
  rw [← HF.out] at HST
  have bp1 : Box ((w.alloc (.cells #[.string r.cls, .slice A1 r.states.length c1, .int .i64 r.start, .int .i64 r.err, .slice A4 r.moves.length c4] 63)).alloc (.cells #[.string ⟨#[]⟩, .slice none 0 0, .int .i64 0, .int .i64 0, .slice none 0 0] 63)) w.heap.size [.string r.cls, .slice A1 r.states.length c1, .int .i64 r.start, .int .i64 r.err, .slice A4 r.moves.length c4] 63 := (by repeat (first | (refine Box.at ?_; (simp; done)) | apply Box.drew | apply Box.alloc | assumption))
  have br1 : Box ((w.alloc (.cells #[.string r.cls, .slice A1 r.states.length c1, .int .i64 r.start, .int .i64 r.err, .slice A4 r.moves.length c4] 63)).alloc (.cells #[.string ⟨#[]⟩, .slice none 0 0, .int .i64 0, .int .i64 0, .slice none 0 0] 63)) (w.heap.size + 1) [.string ⟨#[]⟩, .slice none 0 0, .int .i64 0, .int .i64 0, .slice none 0 0] 63 := (by repeat (first | (refine Box.at ?_; (simp; done)) | apply Box.drew | apply Box.alloc | assumption))
  have bl1 : Below w.heap.size w ((w.alloc (.cells #[.string r.cls, .slice A1 r.states.length c1, .int .i64 r.start, .int .i64 r.err, .slice A4 r.moves.length c4] 63)).alloc (.cells #[.string ⟨#[]⟩, .slice none 0 0, .int .i64 0, .int .i64 0, .slice none 0 0] 63)) := (by repeat (first | assumption | exact Below.refl _ _ | apply bw_alloc | apply bw_drew | apply bw_drewN | apply bw_later | apply bw_step))
  go_enter Tryz.func100, Tryz.ntmps100
  go_upto_region 1 with fail
  generalize World.alloc (World.alloc w _) _ = w1 at *
  go_wp2_with fail
  refine (HFM.out _ bl1).mono ?_
  rintro e w2 ⟨rfl, rfl⟩
  clear HFM
  cases hfb : formB ws [109, 111, 118, 101] 4 with
  | false =>
    have HX := Lib.hid (HB1.out hfb)
    clear hfb HB1 HB2 HST
    have p0 := bp1.cell 0 rfl
    have p1 := bp1.cell 1 rfl
    have p2 := bp1.cell 2 rfl
    have p3 := bp1.cell 3 rfl
    have p4 := bp1.cell 4 rfl
    have pf := fun i => bp1.free i
    have pl := bp1.lt
    have q0 := br1.cell 0 rfl
    have q1 := br1.cell 1 rfl
    have q2 := br1.cell 2 rfl
    have q3 := br1.cell 3 rfl
    have q4 := br1.cell 4 rfl
    have qf := fun i => br1.free i
    have ql := br1.lt
    obtain ⟨hbz, hgz⟩ := br1.store5 (.string r.cls) (.slice A1 r.states.length c1) (.int .i64 r.start) (.int .i64 r.err) (.slice A4 r.moves.length c4)
    have hbwz := bl1.grown hgz bl1.size (fun k hk => by injection hk with hk; omega)
    have y0 := hbz.cell 0 rfl
    have y1 := hbz.cell 1 rfl
    have y2 := hbz.cell 2 rfl
    have y3 := hbz.cell 3 rfl
    have y4 := hbz.cell 4 rfl
    go_wp2_with fail
    refine bodyPost_ret (v := .tuple #[.agg #[.string r.cls, .slice A1 r.states.length c1, .int .i64 r.start, .int .i64 r.err, .slice A4 r.moves.length c4], .int .i64 2]) (by simp [results, Tryz.results100, go_sem, y0, y1, y2, y3, y4]) rfl ⟨?_, hbwz⟩
    exact ⟨r.ptc, A1, c1, A4, c4, 2, rfl, ⟨hc1, hs1.mono hbwz, hc4, hs4.mono hbwz, hT1.mono hbwz, hT4.mono hbwz⟩, ifE_two (fun he => by rw [HX.out he]), fun h => by omega⟩
  | true =>
    obtain ⟨hcond, hne⟩ := HB2.out hfb
    have HS := Lib.hid (HST.out hcond hne)
    have hl1 : 1 < ws.length := by omega
    have hl2 : 2 < ws.length := by omega
    have hl3 : 3 < ws.length := by omega
    have HNE := Lib.hid hne
    have HG1 : Hid (ws.getD 1 ⟨#[]⟩ = ws[1] ∧ ws.getD 2 ⟨#[]⟩ = ws[2] ∧ ws.getD 3 ⟨#[]⟩ = ws[3]) := by refine ⟨?_, ?_, ?_⟩ <;> simp [List.getD, hl1, hl2, hl3]
    rw [HG1.out.1, HG1.out.2.1, HG1.out.2.2] at HS
    clear hfb HB1 HB2 HST hcond hne HG1
    have hw' := hw.mono bl1
    have hs1' := hs1.mono bl1
    obtain ⟨bW, oW, rfl, hbW, d1⟩ := hw'.str_at hl1
    obtain ⟨bN, oN, eN, hbN, d2⟩ := hw'.str_at hl2
    injection eN with eN
    injection eN with z1 z2
    subst z1 z2
    obtain ⟨bN, oN, eN, hbN, d3⟩ := hw'.str_at hl3
    injection eN with eN
    injection eN with z1 z2
    subst z1 z2
    have p1 := bp1.cell 1 rfl
    have pl := bp1.lt
    have HATB : Hid (∀ (y : ByteArray) (W : World), Below w1.heap.size w1 W → Calls Tryz.prog 79 #[.slice A1 r.states.length c1, .string y] W fun e w' => e = .returned (.int .i64 (F y)) ∧ W = w') := fun y W hW => by rw [HF.out]; exact refAt_any A1 c1 r.states y W (by omega) (hs1'.mono hW)
    have HAT2 : Hid (∀ (y : ByteArray) (x : Later w1), Calls Tryz.prog 79 #[.slice A1 r.states.length c1, .string y] x.W fun e w' => e = .returned (.int .i64 (F y)) ∧ x.W = w') := fun y x => by rw [HF.out]; exact refAt_any A1 c1 r.states y x.W (by omega) (hs1'.later x)
    go_wp2_with fail
    go_cut [6] (fun v6 wx => ∃ bM, v6 = .pointer (some ⟨bM, 0, none⟩) ∧ Box wx bM [.int .i64 (F ws[1]), .string ws[2], .int .i64 (F ws[3])] 103 ∧ Below w1.heap.size w1 wx)
    case first =>
      have g1 : (1 : Int) < (ws.length : Int) := by omega
      have g2 : (2 : Int) < (ws.length : Int) := by omega
      have g3 : (3 : Int) < (ws.length : Int) := by omega
      have bZ := Box.new w1 [.int .i64 0, .string ⟨#[]⟩, .int .i64 0] 103
      obtain ⟨b5, hg5⟩ := bZ.store3 (.int .i64 (F ws[1])) (.string ws[2]) (.int .i64 (F ws[3]))
      have hb3 := (bw_alloc (o := .cells #[.int .i64 0, .string ⟨#[]⟩, .int .i64 0] 103) (Below.refl w1.heap.size w1)).grown hg5 (by simp) (fun k hk => by injection hk with hk; omega)
      have b6 := b5.drew
      have hb4 := hb3.drew
      clear bZ b5 hg5 hb3
      go_region_held3 (fun w' => w'.cell? ⟨w.heap.size, 1, none⟩ = some (.slice A1 r.states.length c1) ∧ w'.cell? ⟨bW, oW + 1, none⟩ = some (.string ws[1]) ∧ w'.cell? ⟨bW, oW + 2, none⟩ = some (.string ws[2]) ∧ w'.cell? ⟨bW, oW + 3, none⟩ = some (.string ws[3]))
        (with_reducible (refine ⟨keptC p1 pl ?_, keptC d1 hbW ?_, keptC d2 hbW ?_, keptC d3 hbW ?_⟩ <;> (repeat (first | exact Below.refl _ _ | apply bw_alloc | apply bw_drew | refine Below.setCell ?_ (by simp) _))))
        (first | (go_at_call 79; refine (HATB.out _ _ ?_).mono ?_; (with_reducible (repeat (first | exact Below.refl _ _ | apply bw_alloc | apply bw_drew))); rintro e w' ⟨rfl, rfl⟩))
      all_goals
        go_wp2_with fail
        go_meet
        first | with_reducible exact ⟨_, rfl, (Box.new _ _ _).drew, (bw_alloc (Below.refl _ _)).drew⟩ | with_reducible exact ⟨_, rfl, Box.new _ _ _, bw_alloc (Below.refl _ _)⟩ | with_reducible exact ⟨_, rfl, b6, hb4⟩
    case rest =>
    obtain ⟨bM, rfl, bmm, hbz⟩ := hcut
    generalize hwz : wc = wz at *
    clear hwz
    have bpm := bp1.mono hbz
    have brm := br1.mono hbz
    have blm := below_step bl1 hbz
    clear p1 pl bp1 br1 hs1' hw' d1 d2 d3 hbW hbN HAT2 HATB bl1 hbz
    generalize F ws[1] = k1 at *
    generalize F ws[3] = k3 at *
    by_cases hk : 0 ≤ k1 ∧ 0 ≤ k3
    case neg =>
      have HR : Hid (stepR r ws = (r, 6)) := by show _ = _; rw [HS.out, if_neg hk]
      have m0 := bmm.cell 0 rfl
      have m2 := bmm.cell 2 rfl
      have ml := bmm.lt
      by_cases ha1 : 0 ≤ k1
      · have ha3 : k3 < 0 := by omega
        have hkn : ¬ k1 < 0 := by omega
        clear hk ha1
        have p0 := bpm.cell 0 rfl
        have p1 := bpm.cell 1 rfl
        have p2 := bpm.cell 2 rfl
        have p3 := bpm.cell 3 rfl
        have p4 := bpm.cell 4 rfl
        have pf := fun i => bpm.free i
        have pl := bpm.lt
        have q0 := brm.cell 0 rfl
        have q1 := brm.cell 1 rfl
        have q2 := brm.cell 2 rfl
        have q3 := brm.cell 3 rfl
        have q4 := brm.cell 4 rfl
        have qf := fun i => brm.free i
        have ql := brm.lt
        obtain ⟨hbz, hgz⟩ := brm.store5 (.string r.cls) (.slice A1 r.states.length c1) (.int .i64 r.start) (.int .i64 r.err) (.slice A4 r.moves.length c4)
        have hbwz := blm.grown hgz blm.size (fun k hk => by injection hk with hk; omega)
        have y0 := hbz.cell 0 rfl
        have y1 := hbz.cell 1 rfl
        have y2 := hbz.cell 2 rfl
        have y3 := hbz.cell 3 rfl
        have y4 := hbz.cell 4 rfl
        go_wp2_with fail
        refine bodyPost_ret (v := .tuple #[.agg #[.string r.cls, .slice A1 r.states.length c1, .int .i64 r.start, .int .i64 r.err, .slice A4 r.moves.length c4], .int .i64 6]) (by simp [results, Tryz.results100, go_sem, y0, y1, y2, y3, y4]) rfl ⟨?_, hbwz⟩
        exact ⟨r.ptc, A1, c1, A4, c4, 6, rfl, ⟨hc1, hs1.mono hbwz, hc4, hs4.mono hbwz, hT1.mono hbwz, hT4.mono hbwz⟩, ifE_no HNE.out (by rw [HR.out]), fun h => by omega⟩
      · have hkn : k1 < 0 := by omega
        clear hk ha1
        have p0 := bpm.cell 0 rfl
        have p1 := bpm.cell 1 rfl
        have p2 := bpm.cell 2 rfl
        have p3 := bpm.cell 3 rfl
        have p4 := bpm.cell 4 rfl
        have pf := fun i => bpm.free i
        have pl := bpm.lt
        have q0 := brm.cell 0 rfl
        have q1 := brm.cell 1 rfl
        have q2 := brm.cell 2 rfl
        have q3 := brm.cell 3 rfl
        have q4 := brm.cell 4 rfl
        have qf := fun i => brm.free i
        have ql := brm.lt
        obtain ⟨hbz, hgz⟩ := brm.store5 (.string r.cls) (.slice A1 r.states.length c1) (.int .i64 r.start) (.int .i64 r.err) (.slice A4 r.moves.length c4)
        have hbwz := blm.grown hgz blm.size (fun k hk => by injection hk with hk; omega)
        have y0 := hbz.cell 0 rfl
        have y1 := hbz.cell 1 rfl
        have y2 := hbz.cell 2 rfl
        have y3 := hbz.cell 3 rfl
        have y4 := hbz.cell 4 rfl
        go_wp2_with fail
        refine bodyPost_ret (v := .tuple #[.agg #[.string r.cls, .slice A1 r.states.length c1, .int .i64 r.start, .int .i64 r.err, .slice A4 r.moves.length c4], .int .i64 6]) (by simp [results, Tryz.results100, go_sem, y0, y1, y2, y3, y4]) rfl ⟨?_, hbwz⟩
        exact ⟨r.ptc, A1, c1, A4, c4, 6, rfl, ⟨hc1, hs1.mono hbwz, hc4, hs4.mono hbwz, hT1.mono hbwz, hT4.mono hbwz⟩, ifE_no HNE.out (by rw [HR.out]), fun h => by omega⟩
    have HR : Hid (stepR r ws = ({ r with moves := r.moves ++ [⟨k1, ws[2], k3⟩] }, 0)) := by show _ = _; rw [HS.out, if_pos hk]
    have ha1 : ¬ k1 < 0 := by omega
    have ha3 : ¬ k3 < 0 := by omega
    clear hk
    have m0 := bmm.cell 0 rfl
    have m1 := bmm.cell 1 rfl
    have m2 := bmm.cell 2 rfl
    have ml := bmm.lt
    go_upto_region 6 with fail
    have bpz := bpm
    have brz := brm
    have blz := blm
    clear bpm brm blm
    have hs4z := hs4.mono blz
    have q4 := bpz.cell 4 rfl
    have ql := bpz.lt
    go_cut [5] (fun v5 wx => v5 = .int .i64 0 ∧ ∃ (B : Option Addr) (d : Nat), Box wx w.heap.size [.string r.cls, .slice A1 r.states.length c1, .int .i64 r.start, .int .i64 r.err, .slice B (r.moves.length + 1) d] 63 ∧ Box wx (w.heap.size + 1) [.string ⟨#[]⟩, .slice none 0 0, .int .i64 0, .int .i64 0, .slice none 0 0] 63 ∧ Below w.heap.size w wx ∧ Own cellsMov 3 w.heap.size 103 wx (.slice B (r.moves.length + 1) d) (r.moves ++ [⟨k1, ws[2], k3⟩]))
    case first =>
      refine wp_region_RZ 7 (by kernel_rfl) (by kernel_rfl) ?_
      refine RZ.chunk (f := 4) [1, 2, 4] (by kernel_rfl) ?_
      ((simp only [pickOps, List.filterMap, List.getElem?_toArray, List.getElem?_cons_zero, List.getElem?_cons_succ]); (repeat (go_big_quiet_step (fail))); refine wpQuiet_nil ?_)
      refine RZ.both 0 5 rfl rfl (by kernel_rfl) (by omega) (by omega) ?_ ?_
      · intro K hK
        go_wp2_with fail
        refine hK _ _ (bw_alloc (Below.refl _ _)) ?_
        clear hK
        generalize hW : World.drew (World.alloc _ _) = W2
        have hb2 : Below wz.heap.size wz W2 := by rw [← hW]; exact (by repeat (first | assumption | exact Below.refl _ _ | apply bw_alloc | apply bw_drew | apply bw_drewN | apply bw_later | apply bw_step))
        have hz2 : wz.heap.size < W2.heap.size := by rw [← hW]; simp
        have ho2 : Own cellsMov 3 wz.heap.size 103 W2 (.slice (some ⟨wz.heap.size, 0, none⟩) 0 0) ([] : List Mov) := by
          rw [← hW]
          exact (Own.lit wz #[] [] (Nat.le_refl _) (by decide) rfl rfl).mono (bw_drew (Below.refl _ _))
        clear hW
        refine RZ.both 3 5 rfl rfl (by kernel_rfl) (by omega) (by omega) ?_ ?_
        · intro K hK
          obtain ⟨v4, w4, hrun4, ho4, hb4, hg4, hz4⟩ := run_pushAll (L := Lay.mov) (c := c4) movsTy cellsMov_ok 61 ho2 (fun x vs h => h) rfl (hs4z.mono hb2) (by simp [maxLen]; omega) (by simp; omega) hb2.size
          rw [List.nil_append] at ho4
          refine wpList_appendRunD 39 rfl rfl (.tmp 36) (.tmp 38) 61 rfl rfl rfl hrun4 ?_
          simp only [List.setIfInBounds_toArray, List.set_cons_succ, List.set_cons_zero]
          go_wp2_with fail
          have hbx4 : Below wz.heap.size wz w4 := hb2.trans hb4
          refine hK _ _ (below_undrewC hbx4) ?_
          clear hK
          refine RZ.single 5 rfl (by kernel_rfl) (by omega) ?_
          intro K hK
          go_wp2_with fail
          refine hK _ _ (below_undrewC (bw_alloc hbx4)) ?_
          clear hK
          have bn5 := Box.new w4 [.int .i64 k1, .string ws[2], .int .i64 k3] 103
          have hbx5 : Below wz.heap.size wz (w4.alloc (.cells #[.int .i64 k1, .string ws[2], .int .i64 k3] 103)) := bw_alloc hbx4
          have ho5 := ho4.alloc (.cells #[.int .i64 k1, .string ws[2], .int .i64 k3] 103)
          refine RZ.single 6 rfl (by kernel_rfl) (by omega) ?_
          intro K hK
          obtain ⟨v7, w7, hrun7, ho7, hb7, hg7, hz7⟩ := run_push movsTy cellsMov_ok 61 ho5 ⟨k1, ws[2], k3⟩ w4.heap.size 1 (fun j u hj => bn5.cell j hj) (by simp [maxLen]; omega) (by omega) hbx5.size
          refine wpList_appendRunD 42 rfl rfl (.tmp 39) (.tmp 41) 61 rfl rfl rfl hrun7 ?_
          simp only [List.setIfInBounds_toArray, List.set_cons_succ, List.set_cons_zero]
          go_wp2_with fail
          have hbx7 : Below wz.heap.size wz w7 := hbx5.trans hb7
          refine hK _ _ (below_undrewC hbx7) ?_
          clear hK
          (refine RZ.tail (by kernel_rfl) ?_; (simp only [List.drop_succ_cons, List.drop_zero]))
          have bp7 := bpz.mono hbx7
          have br7 := brz.mono hbx7
          have bl7 := below_step blz hbx7
          obtain ⟨A8, n8, c8, rfl⟩ := ho7.isSl
          obtain ⟨A9, c9, hv9, hc9, hs9⟩ := ho7.sl (L := Lay.mov) rfl (fun x => rfl)
          injection hv9 with z1 z2 z3
          rw [List.length_append, List.length_singleton] at z2
          subst z1 z2 z3
          have x4 := bp7.cell 4 rfl
          have xf := fun i => bp7.free i
          have xl := bp7.lt
          have hgs := grown_set w7 w.heap.size 4 (.slice A8 (r.moves.length + 1) c8)
          have hos := ho7.kept hgs (fun k hk hv => by injection hk with hk; have := (World.ownsRow.lt ho7 k hv).1; have := bpz.lt; omega)
          have hos2 := hos.base_le' blz.size
          go_wp2_with fail
          go_meet
          exact ⟨rfl, A8, c8, bp7.set 4 _, br7.setOther (by simp) _, bl7.setCell (by simp) _, hos2⟩
        · intro K hK
          go_wp2_with fail
          refine hK _ _ (below_undrewC (bw_alloc hb2)) ?_
          clear hK
          have hb3 : Below wz.heap.size wz (W2.alloc (.cells #[.int .i64 k1, .string ws[2], .int .i64 k3] 103)) := bw_alloc hb2
          have bx3 := Box.new W2 [.int .i64 k1, .string ws[2], .int .i64 k3] 103
          refine RZ.single 3 rfl (by kernel_rfl) (by omega) ?_
          intro K hK
          obtain ⟨v4, w4, hrun4, ho4, hb4, hg4, hz4⟩ := run_pushAll (L := Lay.mov) (c := c4) movsTy cellsMov_ok 61 (ho2.alloc (.cells #[.int .i64 k1, .string ws[2], .int .i64 k3] 103)) (fun x vs h => h) rfl (hs4z.mono hb3) (by simp [maxLen]; omega) (by simp; omega) hb3.size
          rw [List.nil_append] at ho4
          refine wpList_appendRunD 39 rfl rfl (.tmp 36) (.tmp 38) 61 rfl rfl rfl hrun4 ?_
          simp only [List.setIfInBounds_toArray, List.set_cons_succ, List.set_cons_zero]
          go_wp2_with fail
          have hbx4 : Below wz.heap.size wz w4 := hb3.trans hb4
          refine hK _ _ (below_undrewC hbx4) ?_
          clear hK
          have bx4 := bx3.grown hg4 (by simp [Value.ownBlock]; omega)
          refine RZ.single 6 rfl (by kernel_rfl) (by omega) ?_
          intro K hK
          obtain ⟨v7, w7, hrun7, ho7, hb7, hg7, hz7⟩ := run_push movsTy cellsMov_ok 61 ho4 ⟨k1, ws[2], k3⟩ W2.heap.size 1 (fun j u hj => bx4.cell j hj) (by simp [maxLen]; omega) (by omega) hbx4.size
          refine wpList_appendRunD 42 rfl rfl (.tmp 39) (.tmp 41) 61 rfl rfl rfl hrun7 ?_
          simp only [List.setIfInBounds_toArray, List.set_cons_succ, List.set_cons_zero]
          go_wp2_with fail
          have hbx7 : Below wz.heap.size wz w7 := hbx4.trans hb7
          refine hK _ _ (below_undrewC hbx7) ?_
          clear hK
          (refine RZ.tail (by kernel_rfl) ?_; (simp only [List.drop_succ_cons, List.drop_zero]))
          have bp7 := bpz.mono hbx7
          have br7 := brz.mono hbx7
          have bl7 := below_step blz hbx7
          obtain ⟨A8, n8, c8, rfl⟩ := ho7.isSl
          obtain ⟨A9, c9, hv9, hc9, hs9⟩ := ho7.sl (L := Lay.mov) rfl (fun x => rfl)
          injection hv9 with z1 z2 z3
          rw [List.length_append, List.length_singleton] at z2
          subst z1 z2 z3
          have x4 := bp7.cell 4 rfl
          have xf := fun i => bp7.free i
          have xl := bp7.lt
          have hgs := grown_set w7 w.heap.size 4 (.slice A8 (r.moves.length + 1) c8)
          have hos := ho7.kept hgs (fun k hk hv => by injection hk with hk; have := (World.ownsRow.lt ho7 k hv).1; have := bpz.lt; omega)
          have hos2 := hos.base_le' blz.size
          go_wp2_with fail
          go_meet
          exact ⟨rfl, A8, c8, bp7.set 4 _, br7.setOther (by simp) _, bl7.setCell (by simp) _, hos2⟩
      · intro K hK
        go_wp2_with fail
        refine hK _ _ (bw_alloc (Below.refl _ _)) ?_
        clear hK
        generalize hW : World.drew (World.alloc _ _) = W2
        have hb2 : Below wz.heap.size wz W2 := by rw [← hW]; exact (by repeat (first | assumption | exact Below.refl _ _ | apply bw_alloc | apply bw_drew | apply bw_drewN | apply bw_later | apply bw_step))
        have hz2 : wz.heap.size < W2.heap.size := by rw [← hW]; simp
        have bx2 : Box W2 wz.heap.size [.int .i64 k1, .string ws[2], .int .i64 k3] 103 := by rw [← hW]; exact (Box.new _ _ _).drew
        clear hW
        refine RZ.single 0 rfl (by kernel_rfl) (by omega) ?_
        intro K hK
        go_wp2_with fail
        refine hK _ _ (below_undrewC (bw_alloc hb2)) ?_
        clear hK
        have hb3 : Below wz.heap.size wz (W2.alloc (.cells #[] 103)) := bw_alloc hb2
        have ho3 : Own cellsMov 3 wz.heap.size 103 (W2.alloc (.cells #[] 103)) (.slice (some ⟨W2.heap.size, 0, none⟩) 0 0) ([] : List Mov) := Own.lit W2 #[] [] hb2.size (by decide) rfl rfl
        refine RZ.single 3 rfl (by kernel_rfl) (by omega) ?_
        intro K hK
        obtain ⟨v4, w4, hrun4, ho4, hb4, hg4, hz4⟩ := run_pushAll (L := Lay.mov) (c := c4) movsTy cellsMov_ok 61 ho3 (fun x vs h => h) rfl (hs4z.mono hb3) (by simp [maxLen]; omega) (by simp; omega) hb3.size
        rw [List.nil_append] at ho4
        refine wpList_appendRunD 39 rfl rfl (.tmp 36) (.tmp 38) 61 rfl rfl rfl hrun4 ?_
        simp only [List.setIfInBounds_toArray, List.set_cons_succ, List.set_cons_zero]
        go_wp2_with fail
        have hbx4 : Below wz.heap.size wz w4 := hb3.trans hb4
        refine hK _ _ (below_undrewC hbx4) ?_
        clear hK
        have bx4 := (bx2.alloc (.cells #[] 103)).grown hg4 (by simp [Value.ownBlock]; omega)
        refine RZ.single 6 rfl (by kernel_rfl) (by omega) ?_
        intro K hK
        obtain ⟨v7, w7, hrun7, ho7, hb7, hg7, hz7⟩ := run_push movsTy cellsMov_ok 61 ho4 ⟨k1, ws[2], k3⟩ wz.heap.size 1 (fun j u hj => bx4.cell j hj) (by simp [maxLen]; omega) (by omega) hbx4.size
        refine wpList_appendRunD 42 rfl rfl (.tmp 39) (.tmp 41) 61 rfl rfl rfl hrun7 ?_
        simp only [List.setIfInBounds_toArray, List.set_cons_succ, List.set_cons_zero]
        go_wp2_with fail
        have hbx7 : Below wz.heap.size wz w7 := hbx4.trans hb7
        refine hK _ _ (below_undrewC hbx7) ?_
        clear hK
        (refine RZ.tail (by kernel_rfl) ?_; (simp only [List.drop_succ_cons, List.drop_zero]))
        have bp7 := bpz.mono hbx7
        have br7 := brz.mono hbx7
        have bl7 := below_step blz hbx7
        obtain ⟨A8, n8, c8, rfl⟩ := ho7.isSl
        obtain ⟨A9, c9, hv9, hc9, hs9⟩ := ho7.sl (L := Lay.mov) rfl (fun x => rfl)
        injection hv9 with z1 z2 z3
        rw [List.length_append, List.length_singleton] at z2
        subst z1 z2 z3
        have x4 := bp7.cell 4 rfl
        have xf := fun i => bp7.free i
        have xl := bp7.lt
        have hgs := grown_set w7 w.heap.size 4 (.slice A8 (r.moves.length + 1) c8)
        have hos := ho7.kept hgs (fun k hk hv => by injection hk with hk; have := (World.ownsRow.lt ho7 k hv).1; have := bpz.lt; omega)
        have hos2 := hos.base_le' blz.size
        go_wp2_with fail
        go_meet
        exact ⟨rfl, A8, c8, bp7.set 4 _, br7.setOther (by simp) _, bl7.setCell (by simp) _, hos2⟩
    case rest =>
    clear m0 m1 m2 ml bmm bpz brz blz hs4z q4 ql
    obtain ⟨rfl, B, d, bp9, br9, bl9, hown9⟩ := hcut
    have HM : Hid (r.moves ++ [⟨k1, ws[2], k3⟩] = (stepR r ws).1.moves) := by show _ = _; rw [HR.out]
    have p0 := bp9.cell 0 rfl
    have p1 := bp9.cell 1 rfl
    have p2 := bp9.cell 2 rfl
    have p3 := bp9.cell 3 rfl
    have p4 := bp9.cell 4 rfl
    have pf := fun i => bp9.free i
    have pl := bp9.lt
    have q0 := br9.cell 0 rfl
    have q1 := br9.cell 1 rfl
    have q2 := br9.cell 2 rfl
    have q3 := br9.cell 3 rfl
    have q4 := br9.cell 4 rfl
    have qf := fun i => br9.free i
    have ql := br9.lt
    obtain ⟨hbz, hgz⟩ := br9.store5 (.string r.cls) (.slice A1 r.states.length c1) (.int .i64 r.start) (.int .i64 r.err) (.slice B (r.moves.length + 1) d)
    have hbwz := bl9.grown hgz bl9.size (fun k hk => by injection hk with hk; omega)
    have y0 := hbz.cell 0 rfl
    have y1 := hbz.cell 1 rfl
    have y2 := hbz.cell 2 rfl
    have y3 := hbz.cell 3 rfl
    have y4 := hbz.cell 4 rfl
    go_wp2_with fail
    refine bodyPost_ret (v := .tuple #[.agg #[.string r.cls, .slice A1 r.states.length c1, .int .i64 r.start, .int .i64 r.err, .slice B (r.moves.length + 1) d], .int .i64 0]) (by simp [results, Tryz.results100, go_sem, y0, y1, y2, y3, y4]) rfl ⟨?_, hbwz⟩
    have hownz := hown9.kept_box br9 (by decide) hgz
    obtain ⟨A9, c9, hv9, hc9, hs9⟩ := hownz.sl (L := Lay.mov) rfl (fun x => rfl)
    injection hv9 with z1 z2 z3
    subst z1 z3
    have hlen : (r.moves ++ [(⟨k1, ws[2], k3⟩ : Mov)]).length = r.moves.length + 1 := by simp
    exact ⟨{ r.ptc with moves := r.moves ++ [⟨k1, ws[2], k3⟩] }, A1, c1, B, d, 0, by show _ = Ending.returned (.tuple #[.agg #[.string r.cls, .slice A1 r.states.length c1, .int .i64 r.start, .int .i64 r.err, .slice B (r.moves ++ [(⟨k1, ws[2], k3⟩ : Mov)]).length d], .int .i64 0]); rw [hlen], ⟨hc1, hs1.mono hbwz, hc9, hs9, hT1.mono hbwz, hownz.blkTy⟩, ifE_no HNE.out (by rw [HR.out]), fun _ => by rw [HR.out]; rfl⟩
end Go.Proofs.YthabojhnliomnaaGreatDoor

namespace Go.Proofs.YthabojhnliomnaaGreatDoor
open Go.RowKit Go.Deep
set_option linter.unusedVariables false

theorem row_ne {w w' : World} {A : Option Addr} {t t' : TypeId} {row : Option Nat} (hT : BlkTy w A t) (hr : RowTyK w row t') (hne : t ≠ t') (a : Addr) (ha : A = some a) : some a.block ≠ row := fun e => by
  obtain ⟨cs, fr, h1⟩ := hT a ha
  obtain ⟨cs', fr', h2⟩ := hr a.block e.symm
  rw [h1] at h2
  injection h2 with h2
  injection h2 with _ h2 _
  exact hne h2
theorem Sl.keptT {α : Type} {L : Lay α} {w w' : World} {A : Option Addr} {l : List α} {t t' : TypeId} {row : Option Nat} (h : Sl L w A l) (hL : ∀ x vs, L.rep w x vs → L.rep w' x vs) (hT : BlkTy w A t) (hr : RowTyK w row t') (hne : t ≠ t') (hg : w.grownBy w' row) : Sl L w' A l := fun i x hx => by
  obtain ⟨b, o, vs, e, h1, h2, h3⟩ := h i x hx
  have hb := hg.block b h1 (row_ne (w' := w') hT hr hne _ e)
  exact ⟨b, o, vs, e, Nat.lt_of_lt_of_le h1 hg.size, hL _ _ h2, fun j v hj => (cell_of_block hb _).trans (h3 j v hj)⟩
theorem BlkTy.keptT {w w' : World} {A : Option Addr} {t t' : TypeId} {row : Option Nat} (hT : BlkTy w A t) (hr : RowTyK w row t') (hne : t ≠ t') (hg : w.grownBy w' row) : BlkTy w' A t := fun a ha => by
  obtain ⟨cs, fr, h1⟩ := hT a ha
  exact ⟨cs, fr, (hg.block _ (Array.getElem?_eq_some_iff.1 h1).1 (row_ne (w' := w') hT hr hne a ha)).trans h1⟩
/-- A protocol as the reference hands it about. -/
structure PtS (w : World) (x : Ptc) (A1 : Option Addr) (c1 : Nat) (A4 : Option Addr) (c4 : Nat) : Prop where
  l1 : x.states.length ≤ c1
  s1 : Sl Lay.str w A1 x.states
  l4 : x.moves.length ≤ c4
  s4 : Sl Lay.mov w A4 x.moves
  t1 : BlkTy w A1 9
  t4 : BlkTy w A4 103
theorem PtS.mono {w w' : World} {x : Ptc} {A1 A4 : Option Addr} {c1 c4 : Nat} (h : PtS w x A1 c1 A4 c4) (hb : Below w.heap.size w w') : PtS w' x A1 c1 A4 c4 := ⟨h.l1, h.s1.mono hb, h.l4, h.s4.mono hb, h.t1.mono hb, h.t4.mono hb⟩
theorem PtS.keptT {w w' : World} {x : Ptc} {A1 A4 : Option Addr} {c1 c4 : Nat} {t' : TypeId} {row : Option Nat} (h : PtS w x A1 c1 A4 c4) (hr : RowTyK w row t') (h1 : 9 ≠ t') (h2 : 103 ≠ t') (hg : w.grownBy w' row) : PtS w' x A1 c1 A4 c4 := ⟨h.l1, h.s1.keptT (fun _ _ k => k) h.t1 hr h1 hg, h.l4, h.s4.keptT (fun _ _ k => k) h.t4 hr h2 hg, h.t1.keptT hr h1 hg, h.t4.keptT hr h2 hg⟩
def RetPtS (r : Ptc × Int × Int) (w' : World) (e : Ending) : Prop := ∃ A1 c1 A4 c4, e = .returned (.tuple #[.agg #[.string r.1.cls, .slice A1 r.1.states.length c1, .int .i64 r.1.start, .int .i64 r.1.err, .slice A4 r.1.moves.length c4], .int .i64 r.2.1, .int .i64 r.2.2]) ∧ PtS w' r.1 A1 c1 A4 c4
theorem blkNone {w : World} {t : TypeId} : BlkTy w none t := fun a ha => by cases ha
theorem retPtS_bad {w' : World} {i e : Int} : RetPtS (zPtc, i, e) w' (.returned (.tuple #[.agg #[.string ⟨#[]⟩, .slice none 0 0, .int .i64 0, .int .i64 0, .slice none 0 0], .int .i64 i, .int .i64 e])) := ⟨none, 0, none, 0, rfl, ⟨Nat.le_refl _, Sl.nil, Nat.le_refl _, Sl.nil, blkNone, blkNone⟩⟩
theorem refHead_any (i : Nat) (hi : i < 4) (r : Rd) (ws : List ByteArray) (A1 A4 AW : Option Addr) (c1 c4 cW : Nat) (w : World) (h0 : 0 < ws.length) (hl : ws.length ≤ 100000) (hcW : ws.length ≤ cW) (hst : r.stage = i) (hls : r.states.length ≤ 100000) (hp : PtS w r.ptc A1 c1 A4 c4) (hw : Sl Lay.str w AW ws) (hTW : BlkTy w AW 9) :
    Calls Tryz.prog 98 #[.agg #[.string r.cls, .slice A1 r.states.length c1, .int .i64 r.start, .int .i64 r.err, .slice A4 r.moves.length c4], .int .i64 i, .slice AW ws.length cW] w fun e w' => RetHd r ws w' e ∧ Below w.heap.size w w' := by
  rcases (show i = 0 ∨ i = 1 ∨ i = 2 ∨ i = 3 by omega) with rfl | rfl | rfl | rfl
  · exact refHead0 r ws A1 A4 AW c1 c4 cW w h0 hl hcW hst hls hp.l1 hp.s1 hp.l4 hp.s4 hw hp.t1 hp.t4 hTW
  · exact refHead1 r ws A1 A4 AW c1 c4 cW w h0 hl hcW hst hls hp.l1 hp.s1 hp.l4 hp.s4 hw hp.t1 hp.t4 hTW
  · exact refHead2 r ws A1 A4 AW c1 c4 cW w h0 hl hcW hst hls hp.l1 hp.s1 hp.l4 hp.s4 hw hp.t1 hp.t4 hTW
  · exact refHead3 r ws A1 A4 AW c1 c4 cW w h0 hl hcW hst hls hp.l1 hp.s1 hp.l4 hp.s4 hw hp.t1 hp.t4 hTW
theorem stepR_head {r : Rd} {ws : List ByteArray} (h : r.stage < 4) (he : (stepR r ws).2 = 0) : (stepR r ws).1.stage = r.stage + 1 := by
  unfold stepR at he ⊢
  rcases (show r.stage = 0 ∨ r.stage = 1 ∨ r.stage = 2 ∨ r.stage = 3 by omega) with hs | hs | hs | hs <;> rw [hs] at he ⊢ <;> simp only at he ⊢ <;> repeat' split at he
  all_goals first | (exfalso; revert he; simp; done) | simp_all
theorem stepR_move {r : Rd} {ws : List ByteArray} (h : r.stage = 4) (hE : formB ws [101, 110, 100] 1 = false) (hne : hasE ws = false) : (stepR r ws).1.stage = 4 := by
  have h1 : ¬ (toL (ws.headD ⟨#[]⟩) = [101, 110, 100] ∧ ws.length = 1) := fun hc => by
    have := (formB_iff (by omega)).2 ⟨hc, hne⟩
    rw [hE] at this
    cases this
  unfold stepR
  rw [h]
  simp only
  rw [if_neg h1]
  repeat' split
  all_goals first | exact h | rfl
theorem stepR_end {r : Rd} {ws : List ByteArray} (h : r.stage = 4) (hE : formB ws [101, 110, 100] 1 = true) : hasE ws = false ∧ stepR r ws = ({ r with stage := 5 }, 0) := by
  obtain ⟨h1, h2⟩ := (formB_iff (by omega)).1 hE
  refine ⟨h2, ?_⟩
  unfold stepR
  rw [h]
  simp only
  rw [if_pos h1]
theorem stepR_past {r : Rd} {ws : List ByteArray} (h : r.stage = 5) : stepR r ws = (r, 2) := by
  unfold stepR
  rw [h]
  rfl
theorem stepR_sts (r : Rd) (ws : List ByteArray) : (stepR r ws).1.states.length ≤ max r.states.length ws.length := by
  unfold stepR
  repeat' split
  all_goals (simp; try omega)
/-- Between two lines. -/
structure InL (w : World) (bP : Nat) (AL : Option Addr) (out : List ByteArray) (r : Rd) (wr : World) : Prop where
  br : Box wr w.heap.size [.string ⟨#[]⟩, .slice none 0 0, .int .i64 0, .int .i64 0, .slice none 0 0] 63
  bp : ∃ A1 c1 A4 c4, Box wr bP [.string r.cls, .slice A1 r.states.length c1, .int .i64 r.start, .int .i64 r.err, .slice A4 r.moves.length c4] 63 ∧ PtS wr r.ptc A1 c1 A4 c4
  sl : Sl Lay.str wr AL out
  tl : BlkTy wr AL 9
  lt : w.heap.size < bP
  bel : Below w.heap.size w wr
theorem InL.mono {w wr w' : World} {bP : Nat} {AL : Option Addr} {out : List ByteArray} {r : Rd} (h : InL w bP AL out r wr) (hb : Below wr.heap.size wr w') : InL w bP AL out r w' := by
  obtain ⟨A1, c1, A4, c4, h1, h2⟩ := h.bp
  exact ⟨h.br.mono hb, ⟨A1, c1, A4, c4, h1.mono hb, h2.mono hb⟩, h.sl.mono hb, h.tl.mono hb, h.lt, below_step h.bel hb⟩
theorem InL.put {w wr : World} {bP : Nat} {AL : Option Addr} {out : List ByteArray} {r : Rd} (h : InL w bP AL out r wr) (r' : Rd) {B1 B4 : Option Addr} {d1 d4 : Nat} (hx : PtS wr r'.ptc B1 d1 B4 d4) :
    InL w bP AL out r' (((((wr.setCell ⟨bP, 0, none⟩ (.string r'.cls)).setCell ⟨bP, 1, none⟩ (.slice B1 r'.states.length d1)).setCell ⟨bP, 2, none⟩ (.int .i64 r'.start)).setCell ⟨bP, 3, none⟩ (.int .i64 r'.err)).setCell ⟨bP, 4, none⟩ (.slice B4 r'.moves.length d4)) := by
  obtain ⟨A1, c1, A4, c4, hb, _⟩ := h.bp
  have hl := h.lt
  obtain ⟨hbz, hgz⟩ := hb.store5 (.string r'.cls) (.slice B1 r'.states.length d1) (.int .i64 r'.start) (.int .i64 r'.err) (.slice B4 r'.moves.length d4)
  have kB := hb.rowTyK
  exact ⟨h.br.grown hgz (fun e => by have := Option.some.inj e; omega), ⟨B1, d1, B4, d4, hbz, hx.keptT kB (by decide) (by decide) hgz⟩, h.sl.keptT (fun _ _ k => k) h.tl kB (by decide) hgz, h.tl.keptT kB (by decide) hgz, hl, h.bel.grown hgz h.bel.size (fun k hk => by injection hk with hk; omega)⟩
theorem InL.turn {w wr : World} {bP : Nat} {AL : Option Addr} {out : List ByteArray} {r r' : Rd} (h : InL w bP AL out r wr) (e : r'.ptc = r.ptc) : InL w bP AL out r' wr := by
  obtain ⟨A1, c1, A4, c4, hb, hp⟩ := h.bp
  refine ⟨h.br, ⟨A1, c1, A4, c4, ?_, by rw [e]; exact hp⟩, h.sl, h.tl, h.lt, h.bel⟩
  have e1 : r'.cls = r.cls := congrArg Ptc.cls e
  have e2 : r'.states = r.states := congrArg Ptc.states e
  have e3 : r'.start = r.start := congrArg Ptc.start e
  have e4 : r'.err = r.err := congrArg Ptc.err e
  have e5 : r'.moves = r.moves := congrArg Ptc.moves e
  rw [e1, e2, e3, e4, e5]
  exact hb
set_option maxRecDepth 100000 in
set_option maxHeartbeats 8000000 in
theorem refPtcParse_any (s : ByteArray) (ls : List (List UInt8)) (w : World) (hs : s.size ≤ 65536) (hls : Hid (spl 10 (toL s) = ls)) :
    Calls Tryz.prog 52 #[.string s] w fun e w' => RetPtS (ptcP ls) w' e ∧ Below w.heap.size w w' := by
  obtain ⟨R, HR⟩ : ∃ R, Hid (R = ptcP ls) := ⟨_, Lib.hid rfl⟩
  rw [← HR.out]
  have hll : ls.length ≤ 65537 := by rw [← hls.out]; have := spl_len 10 (toL s); rw [toL_len] at this; omega
  have HLN := Lib.hid (fun W => refLines_any s W hs)
  rw [hls.out] at HLN
  have HPZ : Hid (∀ x ∈ ls, x.length ≤ 65536) := fun x hx => by rw [← hls.out] at hx; have := spl_piece hx; rw [toL_len] at this; omega
  have hnl : ¬ (65536 : Int) < (s.size : Int) := by omega
  go_enter Tryz.func52, Tryz.ntmps52
  go_upto_region 3 with fail
  have br1 := Box.new w [.string ⟨#[]⟩, .slice none 0 0, .int .i64 0, .int .i64 0, .slice none 0 0] 63
  have bl1 : Below w.heap.size w (w.alloc (.cells #[.string ⟨#[]⟩, .slice none 0 0, .int .i64 0, .int .i64 0, .slice none 0 0] 63)) := (by repeat (first | assumption | exact Below.refl _ _ | apply bw_alloc | apply bw_drew | apply bw_drewN | apply bw_later | apply bw_step))
  generalize World.alloc w _ = w1 at *
  go_wp2_with fail
  refine (HLN.out _).mono ?_
  rintro e w2 ⟨⟨vl, rest, out, rfl, hown, HL⟩, hb2⟩
  replace HL := Lib.hid HL
  have br2 := br1.mono hb2
  have bl2 := below_step bl1 hb2
  have hlt2 := br2.lt
  clear br1 bl1 HLN hb2
  obtain ⟨AL, cL, rfl, hcL, hsL⟩ := StrsV.of_own hown
  have htL := hown.blkTy
  have hol : out.length + 1 = ls.length := by rw [HL.out]; simp
  have hol2 : out.length ≤ 65536 := by omega
  have hin0 : InL w w2.heap.size AL out rd0 (w2.alloc (.cells #[.string ⟨#[]⟩, .slice none 0 0, .int .i64 0, .int .i64 0, .slice none 0 0] 63)) := by
    have hb3 : Below w2.heap.size w2 (w2.alloc (.cells #[.string ⟨#[]⟩, .slice none 0 0, .int .i64 0, .int .i64 0, .slice none 0 0] 63)) := (by repeat (first | assumption | exact Below.refl _ _ | apply bw_alloc | apply bw_drew | apply bw_drewN | apply bw_later | apply bw_step))
    exact ⟨br2.mono hb3, ⟨none, 0, none, 0, Box.new _ _ _, ⟨Nat.le_refl _, Sl.nil, Nat.le_refl _, Sl.nil, blkNone, blkNone⟩⟩, hsL.mono hb3, htL.mono hb3, hlt2, below_step bl2 hb3⟩
  have HAT : Hid (∀ i (h : i < out.length), ls.drop i = toL out[i] :: ls.drop (i + 1) ∧ ls.drop (i + 1) ≠ []) := fun i h => by
    have h1 : i < ls.length := by omega
    refine ⟨?_, fun e => ?_⟩
    · rw [List.drop_eq_getElem_cons h1]
      congr 1
      have h2 : ls[i]? = some (toL out[i]) := by rw [HL.out, List.getElem?_append_left (by simpa using h)]; simp [h]
      rw [List.getElem?_eq_getElem h1] at h2
      exact Option.some.inj h2
    · have := congrArg List.length e
      rw [List.length_drop] at this
      simp at this
      omega
  have HLAST : Hid (ls.drop out.length = [toL rest]) := by
    show _ = _
    rw [HL.out, List.drop_append_of_le_length (by simp)]
    simp
  have HOZ : Hid (∀ i (h : i < out.length), out[i].size ≤ 65536) := fun i h => by
    have := HPZ.out (toL out[i]) (by rw [HL.out]; exact List.mem_append_left _ (List.mem_map_of_mem (List.getElem_mem h)))
    rwa [toL_len] at this
  have HST : Hid (R = ptcGo (0 + 1) rd0 (ls.drop 0)) := by show _ = _; rw [HR.out]; rfl
  clear hown hsL htL br2 bl2 HR HPZ HL hol hls
  go_upto_region 5 with fail
  generalize hbP : w2.heap.size = bP at *
  generalize World.alloc w2 _ = w3 at *
  clear hbP
  go_wp2_with fail
  go_loopw [8, 9] (fun v8 v9 wr => ∃ (i : Nat) (r : Rd), v8 = .bool (decide (r.stage = 5)) ∧ v9 = .int .i64 i ∧ i ≤ out.length ∧ InL w bP AL out r wr ∧ r.states.length ≤ 70000 ∧ r.moves.length ≤ i ∧ Hid (RdOk r ∧ R = ptcGo (i + 1) r (ls.drop i) ∧ (r.stage = 5 ∨ r.stage = min i 4))) (fun _ v9 _ => out.length - (intOf v9).toNat)
  case atStart => exact ⟨0, rd0, rfl, rfl, Nat.zero_le _, hin0, Nat.zero_le _, Nat.zero_le _, ⟨Nat.zero_le _, by simp [rd0], by simp [rd0]⟩, HST.out, Or.inr rfl⟩
  case round =>
    clear hin0 HST hlt2 w2
    obtain ⟨i, r, rfl, rfl, hi, hin, hst7, hmv, HI⟩ := hrel
    by_cases hlt : i < out.length
    · obtain ⟨bL, oL, eL, hbL, dL⟩ := hin.sl.str_at hlt
      subst eL
      have hoz := HOZ.out i hlt
      have HW := Lib.hid (fun W => refWords_any out[i] W hoz)
      have hwp := wds_pos 32 out[i]
      have hwl := wds_len 32 out[i]
      have HWZ : Hid (∀ x ∈ wds 32 out[i], x.size ≤ 65536) := fun x hx => by have := wds_size hx; omega
      have HGO : Hid (R = if hasE (wds 32 out[i]) then (zPtc, ((i + 1 : Nat) : Int), 2) else if (stepR r (wds 32 out[i])).2 ≠ 0 then (zPtc, ((i + 1 : Nat) : Int), (stepR r (wds 32 out[i])).2) else ptcGo (i + 1 + 1) (stepR r (wds 32 out[i])).1 (ls.drop (i + 1))) := by
        obtain ⟨h1, h2⟩ := HAT.out i hlt
        show _ = _
        rw [HI.out.2.1, h1]
        obtain ⟨y, t, hy⟩ := List.exists_cons_of_ne_nil h2
        rw [hy, ptcGo, bs_back]
      have hwl2 : (wds 32 out[i]).length ≤ 65537 := by omega
      generalize wds 32 out[i] = ws at *
      generalize out[i] = xi at *
      have HOK := Lib.hid HI.out.1
      have HSG := Lib.hid HI.out.2.2
      clear HI hwl
      go_wp2_with fail
      refine (HW.out _).mono ?_
      rintro e w4 ⟨⟨vW, rfl, hownW⟩, hb4⟩
      obtain ⟨AW, cW, rfl, hcW, hsW⟩ := StrsV.of_own hownW
      have htW := hownW.blkTy
      have hin4 := hin.mono hb4
      clear hownW hb4 hin HW hbL dL
      by_cases h5 : r.stage = 5
      · have HB : Hid (R = (zPtc, ((i : Int) + 1), 2)) := by
          show _ = _
          rw [HGO.out, stepR_past h5]
          split
          · rfl
          · rfl
        rw [decide_eq_true h5]
        have br4 := hin4.br
        have bl4 := hin4.bel
        clear HGO HSG h5
        have q0 := br4.cell 0 rfl
        have q1 := br4.cell 1 rfl
        have q2 := br4.cell 2 rfl
        have q3 := br4.cell 3 rfl
        have q4 := br4.cell 4 rfl
        have qf := fun i => br4.free i
        have ql := br4.lt
        obtain ⟨hbz, hgz⟩ := br4.store5 (.string ⟨#[]⟩) (.slice none 0 0) (.int .i64 0) (.int .i64 0) (.slice none 0 0)
        have hbwz := bl4.grown hgz bl4.size (fun k hk => by injection hk with hk; omega)
        have y0 := hbz.cell 0 rfl
        have y1 := hbz.cell 1 rfl
        have y2 := hbz.cell 2 rfl
        have y3 := hbz.cell 3 rfl
        have y4 := hbz.cell 4 rfl
        go_wp2_with fail
        refine bodyPost_ret (v := .tuple #[.agg #[.string ⟨#[]⟩, .slice none 0 0, .int .i64 0, .int .i64 0, .slice none 0 0], .int .i64 ((i : Int) + 1), .int .i64 2]) (by simp [results, Tryz.results52, go_sem, y0, y1, y2, y3, y4]) rfl ⟨?_, hbwz⟩
        rw [HB.out]
        exact retPtS_bad
      rw [decide_eq_false h5]
      have hstg : r.stage = min i 4 := by rcases HSG.out with h | h; exact absurd h h5; exact h
      obtain ⟨A1, c1, A4, c4, hbx, hpt⟩ := hin4.bp
      by_cases hi4 : i < 4
      · have hsi : r.stage = i := by omega
        have HD := Lib.hid (refHead_any i hi4 r ws A1 A4 AW c1 c4 cW w4 (by omega) (by omega) hcW hsi (by omega) hpt hsW htW)
        have HSH : Hid ((stepR r ws).2 = 0 → (stepR r ws).1.stage = i + 1) := fun h => by rw [stepR_head (by omega) h, hsi]
        have hi4' : (i : Int) < 4 := by omega
        clear hstg hsi HSG h5
        have p0 := hbx.cell 0 rfl
        have p1 := hbx.cell 1 rfl
        have p2 := hbx.cell 2 rfl
        have p3 := hbx.cell 3 rfl
        have p4 := hbx.cell 4 rfl
        have pl := hbx.lt
        go_wp2_with fail
        refine HD.out.mono ?_
        rintro e w5 ⟨hret, hb5⟩
        obtain ⟨x, B1, d1, B4, d4, er, rfl, hx, her, hxe⟩ := hret
        have hin5 := hin4.mono hb5
        clear p0 p1 p2 p3 p4 pl hbx hpt hin4 HD
        obtain ⟨C1, e1, C4, e4, hby, hpy⟩ := hin5.bp
        have p0 := hby.cell 0 rfl
        have p1 := hby.cell 1 rfl
        have p2 := hby.cell 2 rfl
        have p3 := hby.cell 3 rfl
        have p4 := hby.cell 4 rfl
        have pf := fun i => hby.free i
        have pl := hby.lt
        have hxp : PtS w5 x B1 d1 B4 d4 := ⟨hx.1, hx.2.1, hx.2.2.1, hx.2.2.2.1, hx.2.2.2.2.1, hx.2.2.2.2.2⟩
        clear hx
        by_cases he0 : er = 0
        · have hxx := hxe he0
          subst hxx
          have hne : hasE ws = false := by
            cases hq : hasE ws with
            | false => rfl
            | true => rw [hq] at her; simp at her; omega
          have hs2 : (stepR r ws).2 = 0 := by rw [hne] at her; simp at her; omega
          have HN : Hid (RdOk (stepR r ws).1 ∧ R = ptcGo (i + 1 + 1) (stepR r ws).1 (ls.drop (i + 1)) ∧ ((stepR r ws).1.stage = 5 ∨ (stepR r ws).1.stage = min (i + 1) 4)) := ⟨stepR_ok HOK.out HWZ.out, by rw [HGO.out, hne, hs2]; rfl, Or.inr (by rw [HSH.out hs2]; omega)⟩
          have hs5n : Hid (¬ (stepR r ws).1.stage = 5) := by show ¬ _; (rw [HSH.out hs2]; omega)
          have hst3 := stepR_sts r ws
          have hmv3 := stepR_moves r ws
          have hin6 := hin5.put (stepR r ws).1 hxp
          subst he0
          clear her hxe HGO HSH hne hs2 hby hpy hin5 hxp
          generalize (stepR r ws).1 = r2 at *
          have hs70 : r2.states.length ≤ 70000 := by omega
          have hm70 : r2.moves.length ≤ i + 1 := by omega
          clear hst3 hmv3
          go_wp2_with fail
          go_roundw
          case rel => exact ⟨i + 1, r2, by rw [decide_eq_false hs5n.out], by go_num, by omega, hin6, hs70, hm70, HN⟩
          case measure => simp [intOf]; omega
        · have HB : Hid (R = (zPtc, ((i : Int) + 1), er)) := by
            show _ = _
            rw [HGO.out]
            cases hq : hasE ws with
            | true => rw [hq] at her; simp at her; rw [if_pos rfl, her]; rfl
            | false =>
              rw [hq] at her
              simp at her
              rw [if_neg (by simp), if_pos (by omega), ← her]; rfl
          have ter : (er != 0) = true := by simpa using he0
          have hin6 := hin5.put ⟨x.cls, x.states, x.start, x.err, x.moves, 0⟩ hxp
          clear her hxe HGO HSH he0 hby hpy hin5 hxp
          go_upto_region 18 with fail
          generalize World.setCell (World.setCell (World.setCell (World.setCell (World.setCell w5 _ _) _ _) _ _) _ _) _ _ = w6 at *
          clear p0 p1 p2 p3 p4 pf pl
          have br4 := hin6.br
          have bl4 := hin6.bel
          have q0 := br4.cell 0 rfl
          have q1 := br4.cell 1 rfl
          have q2 := br4.cell 2 rfl
          have q3 := br4.cell 3 rfl
          have q4 := br4.cell 4 rfl
          have qf := fun i => br4.free i
          have ql := br4.lt
          obtain ⟨hbz, hgz⟩ := br4.store5 (.string ⟨#[]⟩) (.slice none 0 0) (.int .i64 0) (.int .i64 0) (.slice none 0 0)
          have hbwz := bl4.grown hgz bl4.size (fun k hk => by injection hk with hk; omega)
          have y0 := hbz.cell 0 rfl
          have y1 := hbz.cell 1 rfl
          have y2 := hbz.cell 2 rfl
          have y3 := hbz.cell 3 rfl
          have y4 := hbz.cell 4 rfl
          go_wp2_with fail
          refine bodyPost_ret (v := .tuple #[.agg #[.string ⟨#[]⟩, .slice none 0 0, .int .i64 0, .int .i64 0, .slice none 0 0], .int .i64 ((i : Int) + 1), .int .i64 er]) (by simp [results, Tryz.results52, go_sem, y0, y1, y2, y3, y4]) rfl ⟨?_, hbwz⟩
          rw [HB.out]
          exact retPtS_bad
      · have hi4' : ¬ (i : Int) < 4 := by omega
        have hs4 : r.stage = 4 := by omega
        have HFM := Lib.hid (refForm_any AW cW ws ⟨#[101, 110, 100]⟩ 1 w4 (by omega) (by omega) (by omega) hsW)
        have HFM2 : Hid (formB ws (toL ⟨#[101, 110, 100]⟩) 1 = formB ws [101, 110, 100] 1) := rfl
        rw [HFM2.out] at HFM
        have HEND : Hid (formB ws [101, 110, 100] 1 = true → hasE ws = false ∧ stepR r ws = ({ r with stage := 5 }, 0)) := stepR_end hs4
        have HMV : Hid (formB ws [101, 110, 100] 1 = false → hasE ws = false → (stepR r ws).1.stage = 4) := stepR_move hs4
        have HMC : Hid (formB ws [101, 110, 100] 1 = false → Calls Tryz.prog 100 #[.agg #[.string r.cls, .slice A1 r.states.length c1, .int .i64 r.start, .int .i64 r.err, .slice A4 r.moves.length c4], .slice AW ws.length cW] w4 fun e w' => RetHd r ws w' e ∧ Below w4.heap.size w4 w') := fun h => refMove_any r ws A1 A4 AW c1 c4 cW w4 (by omega) (by omega) hs4 (by omega) (by omega) (Lib.hid h) hpt.l1 hpt.s1 hpt.l4 hpt.s4 hsW hpt.t1 hpt.t4
        clear hstg hs4 HSG h5 HFM2
        go_wp2_with fail
        refine HFM.out.mono ?_
        rintro e w4' ⟨rfl, rfl⟩
        clear HFM
        cases hfb : formB ws [101, 110, 100] 1 with
        | true =>
          obtain ⟨hne, hst2⟩ := HEND.out hfb
          obtain ⟨r2, hr2⟩ : ∃ r2 : Rd, r2 = { r with stage := 5 } := ⟨_, rfl⟩
          have HN : Hid (RdOk r2 ∧ R = ptcGo (i + 1 + 1) r2 (ls.drop (i + 1)) ∧ (r2.stage = 5 ∨ r2.stage = min (i + 1) 4)) := by
            subst hr2
            exact ⟨⟨HOK.out.c, HOK.out.s, HOK.out.m⟩, by rw [HGO.out, hne, hst2]; rfl, Or.inl rfl⟩
          have hs5 : Hid (r2.stage = 5) := by subst hr2; exact Lib.hid rfl
          have hin6 : InL w bP (some ⟨bL, oL, none⟩) out r2 w4 := by subst hr2; exact hin4.turn rfl
          have hs70 : r2.states.length ≤ 70000 := by subst hr2; assumption
          have hm70 : r2.moves.length ≤ i + 1 := by subst hr2; show r.moves.length ≤ _; omega
          clear HEND HMV HMC HGO hne hst2 hfb hr2
          go_wp2_with fail
          go_roundw
          case rel => exact ⟨i + 1, r2, by rw [hs5.out]; rfl, by go_num, by omega, hin6, hs70, hm70, HN⟩
          case measure => simp [intOf]; omega
        | false =>
        have HD := Lib.hid (HMC.out hfb)
        have HSH : Hid (hasE ws = false → (stepR r ws).1.stage = 4) := HMV.out hfb
        clear HEND HMV HMC hfb
        have p0 := hbx.cell 0 rfl
        have p1 := hbx.cell 1 rfl
        have p2 := hbx.cell 2 rfl
        have p3 := hbx.cell 3 rfl
        have p4 := hbx.cell 4 rfl
        have pl := hbx.lt
        go_wp2_with fail
        refine HD.out.mono ?_
        rintro e w5 ⟨hret, hb5⟩
        obtain ⟨x, B1, d1, B4, d4, er, rfl, hx, her, hxe⟩ := hret
        have hin5 := hin4.mono hb5
        clear p0 p1 p2 p3 p4 pl hbx hpt hin4 HD
        obtain ⟨C1, e1, C4, e4, hby, hpy⟩ := hin5.bp
        have p0 := hby.cell 0 rfl
        have p1 := hby.cell 1 rfl
        have p2 := hby.cell 2 rfl
        have p3 := hby.cell 3 rfl
        have p4 := hby.cell 4 rfl
        have pf := fun i => hby.free i
        have pl := hby.lt
        have hxp : PtS w5 x B1 d1 B4 d4 := ⟨hx.1, hx.2.1, hx.2.2.1, hx.2.2.2.1, hx.2.2.2.2.1, hx.2.2.2.2.2⟩
        clear hx
        by_cases he0 : er = 0
        · have hxx := hxe he0
          subst hxx
          have hne : hasE ws = false := by
            cases hq : hasE ws with
            | false => rfl
            | true => rw [hq] at her; simp at her; omega
          have hs2 : (stepR r ws).2 = 0 := by rw [hne] at her; simp at her; omega
          have HN : Hid (RdOk (stepR r ws).1 ∧ R = ptcGo (i + 1 + 1) (stepR r ws).1 (ls.drop (i + 1)) ∧ ((stepR r ws).1.stage = 5 ∨ (stepR r ws).1.stage = min (i + 1) 4)) := ⟨stepR_ok HOK.out HWZ.out, by rw [HGO.out, hne, hs2]; rfl, Or.inr (by rw [HSH.out hne]; omega)⟩
          have hs5n : Hid (¬ (stepR r ws).1.stage = 5) := by show ¬ _; (rw [HSH.out hne]; omega)
          have hst3 := stepR_sts r ws
          have hmv3 := stepR_moves r ws
          have hin6 := hin5.put (stepR r ws).1 hxp
          subst he0
          clear her hxe HGO HSH hne hs2 hby hpy hin5 hxp
          generalize (stepR r ws).1 = r2 at *
          have hs70 : r2.states.length ≤ 70000 := by omega
          have hm70 : r2.moves.length ≤ i + 1 := by omega
          clear hst3 hmv3
          go_wp2_with fail
          go_roundw
          case rel => exact ⟨i + 1, r2, by rw [decide_eq_false hs5n.out], by go_num, by omega, hin6, hs70, hm70, HN⟩
          case measure => simp [intOf]; omega
        · have HB : Hid (R = (zPtc, ((i : Int) + 1), er)) := by
            show _ = _
            rw [HGO.out]
            cases hq : hasE ws with
            | true => rw [hq] at her; simp at her; rw [if_pos rfl, her]; rfl
            | false =>
              rw [hq] at her
              simp at her
              rw [if_neg (by simp), if_pos (by omega), ← her]; rfl
          have ter : (er != 0) = true := by simpa using he0
          have hin6 := hin5.put ⟨x.cls, x.states, x.start, x.err, x.moves, 0⟩ hxp
          clear her hxe HGO HSH he0 hby hpy hin5 hxp
          go_upto_region 18 with fail
          generalize World.setCell (World.setCell (World.setCell (World.setCell (World.setCell w5 _ _) _ _) _ _) _ _) _ _ = w6 at *
          clear p0 p1 p2 p3 p4 pf pl
          have br4 := hin6.br
          have bl4 := hin6.bel
          have q0 := br4.cell 0 rfl
          have q1 := br4.cell 1 rfl
          have q2 := br4.cell 2 rfl
          have q3 := br4.cell 3 rfl
          have q4 := br4.cell 4 rfl
          have qf := fun i => br4.free i
          have ql := br4.lt
          obtain ⟨hbz, hgz⟩ := br4.store5 (.string ⟨#[]⟩) (.slice none 0 0) (.int .i64 0) (.int .i64 0) (.slice none 0 0)
          have hbwz := bl4.grown hgz bl4.size (fun k hk => by injection hk with hk; omega)
          have y0 := hbz.cell 0 rfl
          have y1 := hbz.cell 1 rfl
          have y2 := hbz.cell 2 rfl
          have y3 := hbz.cell 3 rfl
          have y4 := hbz.cell 4 rfl
          go_wp2_with fail
          refine bodyPost_ret (v := .tuple #[.agg #[.string ⟨#[]⟩, .slice none 0 0, .int .i64 0, .int .i64 0, .slice none 0 0], .int .i64 ((i : Int) + 1), .int .i64 er]) (by simp [results, Tryz.results52, go_sem, y0, y1, y2, y3, y4]) rfl ⟨?_, hbwz⟩
          rw [HB.out]
          exact retPtS_bad
    · obtain rfl : i = out.length := by omega
      have HGO : Hid (R = if ¬ r.stage = 5 then (zPtc, ((out.length + 1 : Nat) : Int), 21) else if toL rest ≠ [] then (zPtc, ((out.length + 1 : Nat) : Int), 2) else if ptcE r.ptc ≠ 0 then (zPtc, 0, ptcE r.ptc) else (r.ptc, 0, 0)) := by
        show _ = _
        rw [HI.out.2.1, HLAST.out]
        rfl
      have HOK := Lib.hid HI.out.1
      clear HI hlt
      by_cases h5 : r.stage = 5
      case neg =>
        have HB : Hid (R = (zPtc, ((out.length : Int) + 1), 21)) := by show _ = _; rw [HGO.out, if_pos h5]; rfl
        rw [decide_eq_false h5]
        have br4 := hin.br
        have bl4 := hin.bel
        clear HGO h5
        have q0 := br4.cell 0 rfl
        have q1 := br4.cell 1 rfl
        have q2 := br4.cell 2 rfl
        have q3 := br4.cell 3 rfl
        have q4 := br4.cell 4 rfl
        have qf := fun i => br4.free i
        have ql := br4.lt
        obtain ⟨hbz, hgz⟩ := br4.store5 (.string ⟨#[]⟩) (.slice none 0 0) (.int .i64 0) (.int .i64 0) (.slice none 0 0)
        have hbwz := bl4.grown hgz bl4.size (fun k hk => by injection hk with hk; omega)
        have y0 := hbz.cell 0 rfl
        have y1 := hbz.cell 1 rfl
        have y2 := hbz.cell 2 rfl
        have y3 := hbz.cell 3 rfl
        have y4 := hbz.cell 4 rfl
        go_wp2_with fail
        refine bodyPost_ret (v := .tuple #[.agg #[.string ⟨#[]⟩, .slice none 0 0, .int .i64 0, .int .i64 0, .slice none 0 0], .int .i64 ((out.length : Int) + 1), .int .i64 21]) (by simp [results, Tryz.results52, go_sem, y0, y1, y2, y3, y4]) rfl ⟨?_, hbwz⟩
        rw [HB.out]
        exact retPtS_bad
      have HGO2 : Hid (R = if toL rest ≠ [] then (zPtc, ((out.length + 1 : Nat) : Int), 2) else if ptcE r.ptc ≠ 0 then (zPtc, 0, ptcE r.ptc) else (r.ptc, 0, 0)) := by show _ = _; rw [HGO.out, if_neg (fun h => h h5)]
      rw [decide_eq_true h5]
      clear HGO h5
      cases hte : rest.toList.isEmpty with
      | false =>
        have hne : rest.toList ≠ [] := fun h => by rw [h] at hte; simp at hte
        have hne2 : (rest.toList != ([] : List UInt8)) = true := by simpa using hne
        have HB : Hid (R = (zPtc, ((out.length : Int) + 1), 2)) := by show _ = _; rw [HGO2.out, if_pos (by rw [← ByteArray.toList_eq' rest]; exact hne)]; rfl
        have br4 := hin.br
        have bl4 := hin.bel
        clear HGO2
        have q0 := br4.cell 0 rfl
        have q1 := br4.cell 1 rfl
        have q2 := br4.cell 2 rfl
        have q3 := br4.cell 3 rfl
        have q4 := br4.cell 4 rfl
        have qf := fun i => br4.free i
        have ql := br4.lt
        obtain ⟨hbz, hgz⟩ := br4.store5 (.string ⟨#[]⟩) (.slice none 0 0) (.int .i64 0) (.int .i64 0) (.slice none 0 0)
        have hbwz := bl4.grown hgz bl4.size (fun k hk => by injection hk with hk; omega)
        have y0 := hbz.cell 0 rfl
        have y1 := hbz.cell 1 rfl
        have y2 := hbz.cell 2 rfl
        have y3 := hbz.cell 3 rfl
        have y4 := hbz.cell 4 rfl
        go_wp2_with fail
        refine bodyPost_ret (v := .tuple #[.agg #[.string ⟨#[]⟩, .slice none 0 0, .int .i64 0, .int .i64 0, .slice none 0 0], .int .i64 ((out.length : Int) + 1), .int .i64 2]) (by simp [results, Tryz.results52, go_sem, y0, y1, y2, y3, y4]) rfl ⟨?_, hbwz⟩
        rw [HB.out]
        exact retPtS_bad
      | true =>
        have hte2 : rest.toList = [] := List.isEmpty_iff.1 hte
        have HGO3 : Hid (R = if ptcE r.ptc ≠ 0 then (zPtc, 0, ptcE r.ptc) else (r.ptc, 0, 0)) := by show _ = _; rw [HGO2.out, if_neg (by rw [← ByteArray.toList_eq' rest, hte2]; simp)]
        have HTE := Lib.hid hte2
        clear HGO2 hte2
        have hne2 : (rest.toList != ([] : List UInt8)) = false := by rw [HTE.out]; rfl
        obtain ⟨A1, c1, A4, c4, hbx, hpt⟩ := hin.bp
        have HCK : Hid (∀ W, Below wr.heap.size wr W → Calls Tryz.prog 31 #[.agg #[.string r.cls, .slice A1 r.states.length c1, .int .i64 r.start, .int .i64 r.err, .slice A4 r.moves.length c4]] W fun e w' => e = .returned (.int .i64 (ptcE r.ptc)) ∧ Below W.heap.size W w') := fun W hW => refPtcCheck_any r.ptc A1 A4 c1 c4 W (Lib.hid ⟨by have := HOK.out.c; show r.cls.size ≤ _; omega, by show r.states.length ≤ _; omega, fun y hy => by have := HOK.out.s y hy; omega, by show r.moves.length ≤ _; omega, fun y hy => by have := HOK.out.m y hy; omega⟩) hpt.l1 (hpt.s1.mono hW) (hpt.s4.mono hW)
        have HBAD : Hid (ptcE r.ptc ≠ 0 → R = (zPtc, 0, ptcE r.ptc)) := fun h => by rw [HGO3.out, if_pos h]
        have HFINE : Hid (ptcE r.ptc = 0 → R = (r.ptc, 0, 0)) := fun h => by rw [HGO3.out, if_neg (by rw [h]; simp)]
        generalize ptcE r.ptc = pe at *
        have p0 := hbx.cell 0 rfl
        have p1 := hbx.cell 1 rfl
        have p2 := hbx.cell 2 rfl
        have p3 := hbx.cell 3 rfl
        have p4 := hbx.cell 4 rfl
        have pl := hbx.lt
        clear HGO3
        go_wp2_with fail
        refine (HCK.out _ (Below.refl _ _)).mono ?_
        rintro e w5 ⟨rfl, hb5⟩
        have hin5 := hin.mono hb5
        have hbx5 := hbx.mono hb5
        have hpt5 := hpt.mono hb5
        clear p0 p1 p2 p3 p4 pl hbx hpt hin HCK
        have br4 := hin5.br
        have bl4 := hin5.bel
        by_cases hpe : pe = 0
        case neg =>
          have HB := Lib.hid (HBAD.out hpe)
          have tpe : (pe != 0) = true := by simpa using hpe
          clear hpe
          have q0 := br4.cell 0 rfl
          have q1 := br4.cell 1 rfl
          have q2 := br4.cell 2 rfl
          have q3 := br4.cell 3 rfl
          have q4 := br4.cell 4 rfl
          have qf := fun i => br4.free i
          have ql := br4.lt
          obtain ⟨hbz, hgz⟩ := br4.store5 (.string ⟨#[]⟩) (.slice none 0 0) (.int .i64 0) (.int .i64 0) (.slice none 0 0)
          have hbwz := bl4.grown hgz bl4.size (fun k hk => by injection hk with hk; omega)
          have y0 := hbz.cell 0 rfl
          have y1 := hbz.cell 1 rfl
          have y2 := hbz.cell 2 rfl
          have y3 := hbz.cell 3 rfl
          have y4 := hbz.cell 4 rfl
          go_wp2_with fail
          refine bodyPost_ret (v := .tuple #[.agg #[.string ⟨#[]⟩, .slice none 0 0, .int .i64 0, .int .i64 0, .slice none 0 0], .int .i64 0, .int .i64 pe]) (by simp [results, Tryz.results52, go_sem, y0, y1, y2, y3, y4]) rfl ⟨?_, hbwz⟩
          rw [HB.out]
          exact retPtS_bad
        subst hpe
        have HB := Lib.hid (HFINE.out rfl)
        have p0 := hbx5.cell 0 rfl
        have p1 := hbx5.cell 1 rfl
        have p2 := hbx5.cell 2 rfl
        have p3 := hbx5.cell 3 rfl
        have p4 := hbx5.cell 4 rfl
        have pl := hbx5.lt
        have q0 := br4.cell 0 rfl
        have q1 := br4.cell 1 rfl
        have q2 := br4.cell 2 rfl
        have q3 := br4.cell 3 rfl
        have q4 := br4.cell 4 rfl
        have qf := fun i => br4.free i
        have ql := br4.lt
        obtain ⟨hbz, hgz⟩ := br4.store5 (.string r.cls) (.slice A1 r.states.length c1) (.int .i64 r.start) (.int .i64 r.err) (.slice A4 r.moves.length c4)
        have hbwz := bl4.grown hgz bl4.size (fun k hk => by injection hk with hk; omega)
        have y0 := hbz.cell 0 rfl
        have y1 := hbz.cell 1 rfl
        have y2 := hbz.cell 2 rfl
        have y3 := hbz.cell 3 rfl
        have y4 := hbz.cell 4 rfl
        go_wp2_with fail
        refine bodyPost_ret (v := .tuple #[.agg #[.string r.cls, .slice A1 r.states.length c1, .int .i64 r.start, .int .i64 r.err, .slice A4 r.moves.length c4], .int .i64 0, .int .i64 0]) (by simp [results, Tryz.results52, go_sem, y0, y1, y2, y3, y4]) rfl ⟨?_, hbwz⟩
        rw [HB.out]
        exact ⟨A1, c1, A4, c4, rfl, hpt5.keptT br4.rowTyK (by decide) (by decide) hgz⟩
end Go.Proofs.YthabojhnliomnaaGreatDoor

namespace Go.Proofs.YthabojhnliomnaaGreatDoor
open Go.RowKit Go.Deep
set_option linter.unusedVariables false

theorem Sl.keptTs {w w' : World} {A : Option Addr} {l : List ByteArray} {t t' : TypeId} {row : Option Nat} (h : Sl Lay.str w A l) (hT : BlkTy w A t) (hr : RowTyK w row t') (hne : t ≠ t') (hg : w.grownBy w' row) : Sl Lay.str w' A l := h.keptT (fun _ _ k => k) hT hr hne hg
structure PtcAtS (w : World) (r : RPtc) (x : Ptc) : Prop where
  c : r.cls = x.cls
  s : r.start = x.start
  e : r.err = x.err
  n1 : r.n1 = x.states.length
  n4 : r.n4 = x.moves.length
  p : PtS w x r.A1 r.c1 r.A4 r.c4
section
variable {w w' : World}
theorem PtcAtS.mono {r : RPtc} {x : Ptc} (h : PtcAtS w r x) (hb : Below w.heap.size w w') : PtcAtS w' r x := ⟨h.c, h.s, h.e, h.n1, h.n4, h.p.mono hb⟩
theorem PtcAtS.keptK {row : Option Nat} {t : TypeId} {r : RPtc} {x : Ptc} (h : PtcAtS w r x) (hr : RowTyK w row t) (hne : 9 ≠ t) (hne2 : 103 ≠ t) (hg : w.grownBy w' row) : PtcAtS w' r x := ⟨h.c, h.s, h.e, h.n1, h.n4, h.p.keptT hr hne hne2 hg⟩
theorem PtcAtS.rep {r : RPtc} {x : Ptc} (h : PtcAtS w r x) : Lay.ptc.rep w x (cellsRPtc r) := by
  refine ⟨r.A1, r.c1, r.A4, r.c4, ?_, h.p.l1, h.p.s1, h.p.l4, h.p.s4⟩
  unfold cellsRPtc
  rw [h.c, h.s, h.e, h.n1, h.n4]
end
/-- While a policy is read. -/
structure InV (w : World) (b : Nat) (AL : Option Addr) (out : List ByteArray) (A0 : Option Addr) (n0 c0 : Nat) (A1 : Option Addr) (n1 c1 : Nat) (rr : List RRul) (pp : List RPtc) (rs : List Rul) (ps : List Ptc) (W : World) : Prop where
  br : Box W w.heap.size [.slice none 0 0, .slice none 0 0] 25
  bp : Box W b [.slice A0 n0 c0, .slice A1 n1 c1] 25
  or : Own cellsRRul 8 (b + 1) 51 W (.slice A0 n0 c0) rr
  op : Own cellsRPtc 5 (b + 1) 63 W (.slice A1 n1 c1) pp
  ar : AllAt (RulAt W (b + 1)) rr rs
  ap : AllAt (PtcAtS W) pp ps
  lt : w.heap.size < b
  bel : Below w.heap.size w W
  sl : Sl Lay.str W AL out
  tl : BlkTy W AL 9
section
variable {w W W' : World} {b : Nat} {AL : Option Addr} {out : List ByteArray} {A0 A1 : Option Addr} {n0 c0 n1 c1 : Nat} {rr : List RRul} {pp : List RPtc} {rs : List Rul} {ps : List Ptc}
theorem InV.mono (h : InV w b AL out A0 n0 c0 A1 n1 c1 rr pp rs ps W) (hb : Below W.heap.size W W') : InV w b AL out A0 n0 c0 A1 n1 c1 rr pp rs ps W' :=
  ⟨h.br.mono hb, h.bp.mono hb, h.or.mono hb, h.op.mono hb, h.ar.imp fun x y k => k.mono hb, h.ap.imp fun x y k => k.mono hb, h.lt, below_step h.bel hb, h.sl.mono hb, h.tl.mono hb⟩
/-- One rule more: what append does, at a world W1 behind W in which the rule has been laid. -/
theorem InV.pushR (h : InV w b AL out A0 n0 c0 A1 n1 c1 rr pp rs ps W) {x : RRul} {y : Rul} (hx : RulAt W (b + 1) x y) (hl : rs.length ≤ 70000) :
    ∃ A' n' c' w', (Builtin.append_ #[22, 22] 22 #[.slice A0 n0 c0, .slice (some ⟨W.heap.size, 0, none⟩) 1 1]).run Tryz.prog (W.alloc (.cells (cellsRRul x).toArray 51)) = .ok (.slice A' n' c') w' ∧ Box w' (b) [.slice A0 n0 c0, .slice A1 n1 c1] 25 ∧
      InV w b AL out A' n' c' A1 n1 c1 (rr ++ [x]) pp (rs ++ [y]) ps (w'.setCell ⟨b, 0, none⟩ (.slice A' n' c')) := by
  have hb1 : Below W.heap.size W (W.alloc (.cells (cellsRRul x).toArray 51)) := (by repeat (first | assumption | exact Below.refl _ _ | apply bw_alloc | apply bw_drew | apply bw_drewN | apply bw_later | apply bw_step))
  have h1 := h.mono hb1
  have hx1 := hx.mono hb1
  have hlen : rr.length ≤ 70000 := by rw [h.ar.len]; exact hl
  have hbl := h.bp.lt
  have hlt := h.lt
  obtain ⟨v', w', hrun, ho', hb', hg', hz'⟩ := run_push rulsTyR cellsRRul_ok 22 h1.or x W.heap.size 1 (fun j u hj => (Box.new W (cellsRRul x) 51).cell j hj) (by unfold maxLen; omega) (by omega) (by have := hb1.size; omega)
  obtain ⟨A', n', c', rfl⟩ := ho'.isSl
  have hbp' := h1.bp.grown hg' (h1.or.ne_box h1.bp (by decide))
  have hbr' := h1.br.grown hg' (h1.or.ne_box h1.br (by decide))
  have hgs := grown_set w' (b) 0 (.slice A' n' c')
  have kR := h1.or.rowTyK
  have kB := hbp'.rowTyK
  refine ⟨A', n', c', w', hrun, hbp', hbr'.grown hgs (fun e => by have := Option.some.inj e; omega), hbp'.set 0 _, ho'.keptK kB (by decide) hgs, ((h1.op.keptK kR (by decide) hg').keptK kB (by decide) hgs), ?_, ?_, hlt, ?_, (h1.sl.keptTs h1.tl kR (by decide) hg').keptTs (h1.tl.keptT kR (by decide) hg') kB (by decide) hgs, (h1.tl.keptT kR (by decide) hg').keptT kB (by decide) hgs⟩
  · exact ((h1.ar.imp fun a b k => (k.keptK kR (by decide) hg').keptK kB (by decide) hgs).snoc ((hx1.keptK kR (by decide) hg').keptK kB (by decide) hgs))
  · exact h1.ap.imp fun a b k => (k.keptK kR (by decide) (by decide) hg').keptK kB (by decide) (by decide) hgs
  · exact ((h1.bel.trans (hb'.mono (by omega)))).setCell (by simp; omega) _
theorem InV.pushP (h : InV w b AL out A0 n0 c0 A1 n1 c1 rr pp rs ps W) {x : RPtc} {y : Ptc} (hx : PtcAtS W x y) (hl : ps.length ≤ 70000) :
    ∃ A' n' c' w', (Builtin.append_ #[23, 23] 23 #[.slice A1 n1 c1, .slice (some ⟨W.heap.size, 0, none⟩) 1 1]).run Tryz.prog (W.alloc (.cells (cellsRPtc x).toArray 63)) = .ok (.slice A' n' c') w' ∧ Box w' (b) [.slice A0 n0 c0, .slice A1 n1 c1] 25 ∧
      InV w b AL out A0 n0 c0 A' n' c' rr (pp ++ [x]) rs (ps ++ [y]) (w'.setCell ⟨b, 1, none⟩ (.slice A' n' c')) := by
  have hb1 : Below W.heap.size W (W.alloc (.cells (cellsRPtc x).toArray 63)) := (by repeat (first | assumption | exact Below.refl _ _ | apply bw_alloc | apply bw_drew | apply bw_drewN | apply bw_later | apply bw_step))
  have h1 := h.mono hb1
  have hx1 := hx.mono hb1
  have hlen : pp.length ≤ 70000 := by rw [h.ap.len]; exact hl
  have hbl := h.bp.lt
  have hlt := h.lt
  obtain ⟨v', w', hrun, ho', hb', hg', hz'⟩ := run_push ptcsTyR cellsRPtc_ok 23 h1.op x W.heap.size 1 (fun j u hj => (Box.new W (cellsRPtc x) 63).cell j hj) (by unfold maxLen; omega) (by omega) (by have := hb1.size; omega)
  obtain ⟨A', n', c', rfl⟩ := ho'.isSl
  have hbp' := h1.bp.grown hg' (h1.op.ne_box h1.bp (by decide))
  have hbr' := h1.br.grown hg' (h1.op.ne_box h1.br (by decide))
  have hgs := grown_set w' (b) 1 (.slice A' n' c')
  have kR := h1.op.rowTyK
  have kB := hbp'.rowTyK
  refine ⟨A', n', c', w', hrun, hbp', hbr'.grown hgs (fun e => by have := Option.some.inj e; omega), hbp'.set 1 _, ((h1.or.keptK kR (by decide) hg').keptK kB (by decide) hgs), ho'.keptK kB (by decide) hgs, ?_, ?_, hlt, ?_, (h1.sl.keptTs h1.tl kR (by decide) hg').keptTs (h1.tl.keptT kR (by decide) hg') kB (by decide) hgs, (h1.tl.keptT kR (by decide) hg').keptT kB (by decide) hgs⟩
  · exact h1.ar.imp fun a b k => (k.keptK kR (by decide) hg').keptK kB (by decide) hgs
  · exact ((h1.ap.imp fun a b k => (k.keptK kR (by decide) (by decide) hg').keptK kB (by decide) (by decide) hgs).snoc ((hx1.keptK kR (by decide) (by decide) hg').keptK kB (by decide) (by decide) hgs))
  · exact ((h1.bel.trans (hb'.mono (by omega)))).setCell (by simp; omega) _
end
def InW (w : World) (b : Nat) (AL : Option Addr) (out : List ByteArray) (rs : List Rul) (ps : List Ptc) (W : World) : Prop := ∃ A0 n0 c0 A1 n1 c1 rr pp, InV w b AL out A0 n0 c0 A1 n1 c1 rr pp rs ps W
theorem InW.mono {w W W' : World} {b : Nat} {AL : Option Addr} {out : List ByteArray} {rs : List Rul} {ps : List Ptc} (h : InW w b AL out rs ps W) (hb : Below W.heap.size W W') : InW w b AL out rs ps W' := by
  obtain ⟨A0, n0, c0, A1, n1, c1, rr, pp, hy⟩ := h
  exact ⟨A0, n0, c0, A1, n1, c1, rr, pp, hy.mono hb⟩
theorem InW.facts {w W : World} {b : Nat} {AL : Option Addr} {out : List ByteArray} {rs : List Rul} {ps : List Ptc} (h : InW w b AL out rs ps W) : Sl Lay.str W AL out ∧ Below w.heap.size w W ∧ b < W.heap.size ∧ Box W w.heap.size [.slice none 0 0, .slice none 0 0] 25 := by
  obtain ⟨A0, n0, c0, A1, n1, c1, rr, pp, hy⟩ := h
  exact ⟨hy.sl, hy.bel, hy.bp.lt, hy.br⟩
/-- Between the rules and the protocols, by lines. -/
structure MidL (R : Pol × Int × Int) (ls : List (List UInt8)) (i : Nat) (rs : List Rul) (ps : List Ptc) : Prop where
  go : ∃ f, (ls.drop i).length ≤ f ∧ R = ph2 f (i + 1) rs ps (ls.drop i)
  okr : ∀ x ∈ rs, OkRul x
  okp : ∀ x ∈ ps, OkPtc x
end Go.Proofs.YthabojhnliomnaaGreatDoor

namespace Go.Proofs.YthabojhnliomnaaGreatDoor
open Go.RowKit Go.Deep
set_option linter.unusedVariables false

theorem endAt_pos {D : List (List UInt8)} {k : Nat} (h : endAt D = some k) : k + 1 < D.length ∧ partP D = (D.take (k + 1) ++ [[]], k + 1, D.drop (k + 1)) := by
  obtain ⟨hi, _, _⟩ := List.findIdx?_eq_some_iff_getElem.1 h
  rw [List.length_dropLast] at hi
  refine ⟨by omega, ?_⟩
  unfold partP
  rw [h]
theorem ph2_hit {f i : Nat} {rs : List Rul} {ps : List Ptc} {x : List UInt8} {t : List (List UInt8)} (ht : t ≠ []) : ph2 (f + 1) i rs ps (x :: t) = if begP x = false then (zPol, (i : Int), 2) else if (ptcP (partP (x :: t)).1).2.2 ≠ 0 then (zPol, (i : Int) + max (ptcP (partP (x :: t)).1).2.1 1 - 1, (ptcP (partP (x :: t)).1).2.2) else ph2 f (i + (partP (x :: t)).2.1) rs (ps ++ [(ptcP (partP (x :: t)).1).1]) (partP (x :: t)).2.2 := by
  obtain ⟨y, t', rfl⟩ := List.exists_cons_of_ne_nil ht
  rw [ph2]
theorem ph1_hit {i : Nat} {rs : List Rul} {x : List UInt8} {t : List (List UInt8)} (ht : t ≠ []) : ph1 i rs (x :: t) = if begP x then ph2 (x :: t).length i rs [] (x :: t) else if (ruleP (bsOf x)).2 ≠ 0 then (zPol, i, (ruleP (bsOf x)).2) else ph1 (i + 1) (rs ++ [(ruleP (bsOf x)).1]) t := by
  obtain ⟨y, t', rfl⟩ := List.exists_cons_of_ne_nil ht
  rw [ph1]
set_option maxRecDepth 100000 in
set_option maxHeartbeats 8000000 in
theorem refPolParse_any (s : ByteArray) (w : World) : Calls Tryz.prog 16 #[.string s] w fun e w' => RetPol (polP s) w' e ∧ Below w.heap.size w w' := by
  obtain ⟨R, HR⟩ : ∃ R, Hid (R = polP s) := ⟨_, Lib.hid rfl⟩
  rw [← HR.out]
  go_enter Tryz.func16, Tryz.ntmps16
  by_cases hlong : 65536 < s.size
  · have HB : Hid (R = (zPol, 0, 3)) := by show _ = _; rw [HR.out, polP, if_pos hlong]
    have hlongI : (65536 : Int) < (s.size : Int) := by omega
    go_wp2_with fail
    refine bodyPost_ret (v := .tuple #[.agg #[.slice none 0 0, .slice none 0 0], .int .i64 0, .int .i64 3]) (by simp [results, Tryz.results16, go_sem]) rfl ⟨?_, ?_⟩
    · rw [HB.out]
      exact retPol_bad
    · exact (by repeat (first | assumption | exact Below.refl _ _ | apply bw_alloc | apply bw_drew | apply bw_drewN | apply bw_later | apply bw_step))
  have hs : s.size ≤ 65536 := by omega
  obtain ⟨ls, HLS⟩ : ∃ ls, Hid (spl 10 (toL s) = ls) := ⟨_, Lib.hid rfl⟩
  have HST : Hid (R = ph1 (0 + 1) [] (ls.drop 0)) := by show _ = _; rw [HR.out, polP, if_neg hlong, HLS.out]; rfl
  have hll : ls.length ≤ 65537 := by rw [← HLS.out]; have := spl_len 10 (toL s); rw [toL_len] at this; omega
  have HLN := Lib.hid (fun W => refLines_any s W hs)
  rw [HLS.out] at HLN
  have HFR : Hid (∀ x ∈ ls, (10 : UInt8) ∉ x) := fun x hx => by rw [← HLS.out] at hx; exact spl_mem hx
  have HGL : Hid ((glue 10 ls).length ≤ 65536) := by show _ ≤ _; rw [← HLS.out, glue_spl, toL_len]; exact hs
  have HPZ : Hid (∀ x ∈ ls, x.length ≤ 65536) := fun x hx => by rw [← HLS.out] at hx; have := spl_piece hx; rw [toL_len] at this; omega
  have hsI : ¬ (65536 : Int) < (s.size : Int) := by omega
  clear HR hlong HLS
  go_upto_region 3 with fail
  have br1 := Box.new w [.slice none 0 0, .slice none 0 0] 25
  have bl1 : Below w.heap.size w (w.alloc (.cells #[.slice none 0 0, .slice none 0 0] 25)) := (by repeat (first | assumption | exact Below.refl _ _ | apply bw_alloc | apply bw_drew | apply bw_drewN | apply bw_later | apply bw_step))
  generalize World.alloc w _ = w1 at *
  go_wp2_with fail
  refine (HLN.out _).mono ?_
  rintro e w2 ⟨⟨vl, rest, out, rfl, hown, HL⟩, hb2⟩
  replace HL := Lib.hid HL
  have br2 := br1.mono hb2
  have bl2 := below_step bl1 hb2
  have hlt2 := br2.lt
  clear br1 bl1 HLN hb2
  obtain ⟨AL, cL, rfl, hcL, hsL⟩ := StrsV.of_own hown
  have htL := hown.blkTy
  have hol : out.length + 1 = ls.length := by rw [HL.out]; simp
  have hol2 : out.length ≤ 65536 := by omega
  have hin0 : InW w w2.heap.size AL out [] [] (w2.alloc (.cells #[.slice none 0 0, .slice none 0 0] 25)) := by
    have hb3 : Below w2.heap.size w2 (w2.alloc (.cells #[.slice none 0 0, .slice none 0 0] 25)) := (by repeat (first | assumption | exact Below.refl _ _ | apply bw_alloc | apply bw_drew | apply bw_drewN | apply bw_later | apply bw_step))
    exact ⟨none, 0, 0, none, 0, 0, [], [], br2.mono hb3, Box.new _ _ _, Own.nil, Own.nil, AllAt.nil, AllAt.nil, hlt2, below_step bl2 hb3, hsL.mono hb3, htL.mono hb3⟩
  have HPC : Hid (Pcs out rest ls) := ⟨HL.out, HFR.out, HGL.out⟩
  have HAT : Hid (∀ i (h : i < out.length), ls.drop i = toL out[i] :: ls.drop (i + 1) ∧ ls.drop (i + 1) ≠ []) := fun i h => by
    have h1 : i < ls.length := by omega
    refine ⟨?_, fun e => ?_⟩
    · rw [List.drop_eq_getElem_cons h1]
      congr 1
      have h2 := HPC.out.at h
      rw [List.getElem?_eq_getElem h1] at h2
      exact Option.some.inj h2
    · have := congrArg List.length e
      rw [List.length_drop] at this
      simp at this
      omega
  have HLAST : Hid (ls.drop out.length = [toL rest]) := HPC.out.last
  have HOZ : Hid (∀ i (h : i < out.length), out[i].size ≤ 65536) := fun i h => by
    have := HPZ.out (toL out[i]) (by rw [HL.out]; exact List.mem_append_left _ (List.mem_map_of_mem (List.getElem_mem h)))
    rwa [toL_len] at this
  have HOL := Lib.hid hol
  clear hown hsL htL br2 bl2 HL hol HFR HGL HPZ
  go_upto_region 5 with fail
  generalize hbP : w2.heap.size = bP at *
  generalize World.alloc w2 _ = w3 at *
  clear hbP
  go_upto_block 0 with fail
  go_cut [8] (fun v8 wx => ∃ (i : Nat) (rs : List Rul), v8 = .int .i64 i ∧ i ≤ out.length ∧ rs.length ≤ 65537 ∧ InW w bP AL out rs [] wx ∧ Hid (MidL R ls i rs []))
  case first =>
    go_wp2_with fail
    go_loopw [8] (fun v8 wr => ∃ (i : Nat) (rs : List Rul), v8 = .int .i64 i ∧ i ≤ out.length ∧ rs.length ≤ i ∧ InW w bP AL out rs [] wr ∧ Hid (R = ph1 (i + 1) rs (ls.drop i) ∧ ∀ x ∈ rs, OkRul x)) (fun v8 _ => out.length - (intOf v8).toNat)
    case atStart => exact ⟨0, [], rfl, Nat.zero_le _, Nat.zero_le _, hin0, HST.out, by simp⟩
    case round =>
      clear hin0 HST hlt2 w2
      obtain ⟨i, rs, rfl, hi, hrl, hin, HI⟩ := hrel
      by_cases hlt : i < out.length
      · obtain ⟨hsl, hbel, hbp, _⟩ := hin.facts
        obtain ⟨bL, oL, eL, hbL, dL⟩ := hsl.str_at hlt
        subst eL
        have hoz := HOZ.out i hlt
        have HBG := Lib.hid (fun W => refBegins_any out[i] W (by omega))
        have HPR := Lib.hid (fun W => refRuleOf_any out[i] W hoz)
        have HGO : Hid (R = if begP (toL out[i]) then ph2 (ls.drop i).length (i + 1) rs [] (ls.drop i) else if (ruleP out[i]).2 ≠ 0 then (zPol, ((i + 1 : Nat) : Int), (ruleP out[i]).2) else ph1 (i + 1 + 1) (rs ++ [(ruleP out[i]).1]) (ls.drop (i + 1))) := by
          obtain ⟨h1, h2⟩ := HAT.out i hlt
          show _ = _
          rw [HI.out.1, h1, ph1_hit h2, bs_back]
        have HOKN := Lib.hid (ruleP_ok (s := out[i]) hoz)
        go_wp2_with fail
        refine (HBG.out _).mono ?_
        rintro e w4 ⟨rfl, rfl⟩
        cases hbg : begP (toL out[i]) with
        | true =>
          have HM : Hid (MidL R ls i rs []) := ⟨⟨(ls.drop i).length, Nat.le_refl _, by rw [HGO.out, if_pos hbg]⟩, HI.out.2, by simp⟩
          clear HGO hbg
          go_wp2_with fail
          go_meet
          exact ⟨i, rs, rfl, by omega, by omega, hin, HM⟩
        | false =>
          have HGO2 : Hid (R = if (ruleP out[i]).2 ≠ 0 then (zPol, ((i + 1 : Nat) : Int), (ruleP out[i]).2) else ph1 (i + 1 + 1) (rs ++ [(ruleP out[i]).1]) (ls.drop (i + 1))) := by show _ = _; rw [HGO.out, if_neg (by rw [hbg]; simp)]
          clear HGO hbg HBG
          go_wp2_with fail
          refine (HPR.out _).mono ?_
          rintro e w4 ⟨⟨x, A, m, c, rfl, hown, hxe⟩, hb4⟩
          have hin4 := hin.mono hb4
          have hown4 := hown.base_le' (Nat.succ_le_of_lt hbp)
          clear hin hsl hbel hbp hown HPR hbL dL
          generalize ruleP out[i] = rp at *
          obtain ⟨rx, er⟩ := rp
          simp only at HGO2 HOKN hxe ⊢
          have hb5 : Below w4.heap.size w4 (w4.alloc (.cells #[.int .i64 x.kind, .string x.cls, .string x.mth, .int .i64 x.pth.root, .int .i64 x.pth.n, .slice A m c, .bool x.pth.star, .string x.tag] 51)) := bw_alloc (Below.refl _ _)
          obtain ⟨A0, n0, c0, A1, n1, c1, rr, pp, hy⟩ := hin4.mono hb5
          have bq5 := Box.new w4 [.int .i64 x.kind, .string x.cls, .string x.mth, .int .i64 x.pth.root, .int .i64 x.pth.n, .slice A m c, .bool x.pth.star, .string x.tag] 51
          have ho5 := hown4.mono hb5
          clear hb4 hin4 hown4 hb5
          go_upto_region 8 with fail
          generalize World.alloc w4 _ = w5 at *
          by_cases her : er = 0
          case neg =>
            have HB : Hid (R = (zPol, ((i : Int) + 1), er)) := by show _ = _; rw [HGO2.out, if_pos her]; rfl
            have ter : (er != 0) = true := by simpa using her
            have br4 := hy.br
            have bl4 := hy.bel
            clear her hxe HGO2 HOKN
            have q0 := br4.cell 0 rfl
            have q1 := br4.cell 1 rfl
            have qf := fun i => br4.free i
            have ql := br4.lt
            obtain ⟨hbz, hgz⟩ := br4.store2 (.slice none 0 0) (.slice none 0 0)
            have hbwz := bl4.grown hgz bl4.size (fun k hk => by injection hk with hk; omega)
            have y0 := hbz.cell 0 rfl
            have y1 := hbz.cell 1 rfl
            go_wp2_with fail
            refine bodyPost_ret (v := .tuple #[.agg #[.slice none 0 0, .slice none 0 0], .int .i64 ((i : Int) + 1), .int .i64 er]) (by simp [results, Tryz.results16, go_sem, y0, y1]) rfl ⟨?_, hbwz⟩
            rw [HB.out]
            exact retPol_bad
          have hxx := hxe her
          subst hxx
          subst her
          have hra : RulAt w5 (bP + 1) ⟨x.kind, x.cls, x.mth, x.pth.root, x.pth.n, A, m, c, x.pth.star, x.tag⟩ x := ⟨rfl, rfl, rfl, rfl, rfl, rfl, rfl, ho5⟩
          obtain ⟨A', n', c', w6, hrun, hbp6, hy6⟩ := hy.pushR hra (by omega)
          unfold cellsRRul at hrun
          have p0 := hy.bp.cell 0 rfl
          have pl := hy.bp.lt
          have b0 := bq5.cell 0 rfl
          have b1 := bq5.cell 1 rfl
          have b2 := bq5.cell 2 rfl
          have b3 := bq5.cell 3 rfl
          have b4 := bq5.cell 4 rfl
          have b5 := bq5.cell 5 rfl
          have b6 := bq5.cell 6 rfl
          have b7 := bq5.cell 7 rfl
          have bl := bq5.lt
          have z0 := hbp6.cell 0 rfl
          have zf := fun i => hbp6.free i
          have zl := hbp6.lt
          have HI2 : Hid (R = ph1 (i + 1 + 1) (rs ++ [x]) (ls.drop (i + 1)) ∧ ∀ y ∈ rs ++ [x], OkRul y) := ⟨by rw [HGO2.out, if_neg (by simp)], fun y hy => by
            rcases List.mem_append.1 hy with hy | hy
            · exact HI.out.2 y hy
            · simp at hy; subst hy; exact HOKN.out⟩
          clear hxe HGO2 HOKN hra ho5
          go_wp2_with (at_builtin; refine wpList_appendRun rfl (.tmp 55) (.tmp 57) 22 rfl rfl rfl hrun ?_)
          go_roundw
          case rel => exact ⟨i + 1, _, by go_num, by omega, by rw [List.length_append]; simp; omega, ⟨_, _, _, _, _, _, _, _, hy6⟩, HI2⟩
          case measure => simp [intOf]; omega
      · obtain rfl : i = out.length := by omega
        have HM : Hid (MidL R ls out.length rs []) := ⟨⟨1, by rw [HLAST.out]; exact Nat.le_refl _, by rw [HI.out.1, HLAST.out]; rfl⟩, HI.out.2, by simp⟩
        go_wp2_with fail
        go_meet
        exact ⟨out.length, rs, rfl, Nat.le_refl _, by omega, hin, HM⟩
  case rest =>
  clear hin0 HST hlt2
  obtain ⟨i0, rs, rfl, hi0, hrl, hin0, HM0⟩ := hcut
  go_wp2_with fail
  go_loopw [8] (fun v8 wr => ∃ (i : Nat) (ps : List Ptc), v8 = .int .i64 i ∧ i ≤ out.length ∧ ps.length ≤ i ∧ InW w bP AL out rs ps wr ∧ Hid (MidL R ls i rs ps)) (fun v8 _ => out.length - (intOf v8).toNat)
  case atStart => exact ⟨i0, [], rfl, hi0, Nat.zero_le _, hin0, HM0⟩
  case round =>
    clear hin0 HM0 hi0
    obtain ⟨i, ps, rfl, hi, hpl, hin, HM⟩ := hrel
    by_cases hlt : i < out.length
    · obtain ⟨hsl, hbel, hbp, hbr⟩ := hin.facts
      obtain ⟨bL, oL, eL, hbL, dL⟩ := hsl.str_at hlt
      have HPT : Hid (∀ W, Below wr.heap.size wr W → Calls Tryz.prog 51 #[.slice AL out.length cL, .string rest, .int .i64 i] W fun e w' => RetPt (ls.drop i) i e ∧ W = w') := fun W hW => refPartQ_any out rest ls AL cL i W HPC hi (by omega) (hsl.mono hW)
      subst eL
      have hoz := HOZ.out i hlt
      have HBG := Lib.hid (fun W => refBegins_any out[i] W (by omega))
      obtain ⟨f, HGO⟩ : ∃ f, Hid ((ls.drop (i + 1)).length ≤ f ∧ R = if begP (toL out[i]) = false then (zPol, ((i + 1 : Nat) : Int), 2) else if (ptcP (partP (ls.drop i)).1).2.2 ≠ 0 then (zPol, ((i + 1 : Nat) : Int) + max (ptcP (partP (ls.drop i)).1).2.1 1 - 1, (ptcP (partP (ls.drop i)).1).2.2) else ph2 f (i + 1 + (partP (ls.drop i)).2.1) rs (ps ++ [(ptcP (partP (ls.drop i)).1).1]) (partP (ls.drop i)).2.2) := by
        obtain ⟨f, hf, hR⟩ := HM.out.go
        obtain ⟨h1, h2⟩ := HAT.out i hlt
        obtain ⟨f, rfl⟩ : ∃ f', f = f' + 1 := ⟨f - 1, by rw [h1] at hf; simp at hf; omega⟩
        refine ⟨f, by rw [h1] at hf; simp at hf; simp; omega, ?_⟩
        rw [hR, h1, ph2_hit h2]
      generalize begP (toL out[i]) = bg at *
      clear hsl
      go_wp2_with fail
      refine (HBG.out _).mono ?_
      rintro e w4 ⟨rfl, rfl⟩
      cases bg with
      | false =>
        have HB : Hid (R = (zPol, ((i : Int) + 1), 2)) := by show _ = _; rw [HGO.out.2, if_pos rfl]; rfl
        have br4 := hbr
        have bl4 := hbel
        clear HGO HPT HBG dL
        have q0 := br4.cell 0 rfl
        have q1 := br4.cell 1 rfl
        have qf := fun i => br4.free i
        have ql := br4.lt
        obtain ⟨hbz, hgz⟩ := br4.store2 (.slice none 0 0) (.slice none 0 0)
        have hbwz := bl4.grown hgz bl4.size (fun k hk => by injection hk with hk; omega)
        have y0 := hbz.cell 0 rfl
        have y1 := hbz.cell 1 rfl
        go_wp2_with fail
        refine bodyPost_ret (v := .tuple #[.agg #[.slice none 0 0, .slice none 0 0], .int .i64 ((i : Int) + 1), .int .i64 2]) (by simp [results, Tryz.results16, go_sem, y0, y1]) rfl ⟨?_, hbwz⟩
        rw [HB.out]
        exact retPol_bad
      | true =>
        have HGO2 : Hid (R = if (ptcP (partP (ls.drop i)).1).2.2 ≠ 0 then (zPol, ((i + 1 : Nat) : Int) + max (ptcP (partP (ls.drop i)).1).2.1 1 - 1, (ptcP (partP (ls.drop i)).1).2.2) else ph2 f (i + 1 + (partP (ls.drop i)).2.1) rs (ps ++ [(ptcP (partP (ls.drop i)).1).1]) (partP (ls.drop i)).2.2) := by show _ = _; rw [HGO.out.2, if_neg (by simp)]
        have HF := Lib.hid HGO.out.1
        clear HGO HBG dL
        go_wp2_with fail
        refine (HPT.out _ (Below.refl _ _)).mono ?_
        rintro e w4 ⟨⟨t, nx, rfl, ht1, htz, hnx⟩, rfl⟩
        have HPP := Lib.hid (fun W => refPtcParse_any t (partP (ls.drop i)).1 W htz (Lib.hid ht1))
        have HAT2 := Lib.hid (ptcGo_at (partP (ls.drop i)).1 1 rd0)
        have hplen : (partP (ls.drop i)).1.length ≤ 65537 := by rw [← ht1]; have := spl_len 10 (toL t); rw [toL_len] at this; omega
        have HPK : Hid (OkPtc (ptcP (partP (ls.drop i)).1).1) := by
          refine ptcGo_ok (partP (ls.drop i)).1 1 rd0 ⟨Nat.zero_le _, by simp [rd0], by simp [rd0]⟩ (by simp [rd0]) (by simp [rd0]; omega) ?_
          intro z hz
          rw [← ht1] at hz
          have := spl_piece hz
          rw [toL_len] at this
          omega
        have hat2 : (ptcP (partP (ls.drop i)).1).2.1 ≤ 70000 := by
          have := HAT2.out.2
          unfold ptcP
          omega
        have hat1 : 0 ≤ (ptcP (partP (ls.drop i)).1).2.1 := HAT2.out.1
        have HNX : Hid ((ptcP (partP (ls.drop i)).1).2.2 = 0 → ∃ q : Nat, nx = q ∧ i < q ∧ q ≤ out.length ∧ i + 1 + (partP (ls.drop i)).2.1 = q + 1 ∧ (partP (ls.drop i)).2.2 = ls.drop q) := fun h0 => by
          cases he : endAt (ls.drop i) with
          | none =>
            have h1 : partP (ls.drop i) = (ls.drop i, (ls.drop i).length - 1, [[]]) := by unfold partP; rw [he]
            rw [h1] at h0
            exact absurd h0 (ptcP_open he)
          | some k =>
            obtain ⟨h1, h2⟩ := endAt_pos he
            have h3 := hnx (by rw [he]; simp)
            rw [h2] at h3 ⊢
            rw [List.length_drop] at h1
            have h4 := HOL.out
            refine ⟨i + (k + 1), by rw [h3]; simp, by omega, by omega, by simp; omega, ?_⟩
            simp only [List.drop_drop]
        clear HPT ht1 hnx HAT2 hplen
        go_wp2_with fail
        refine (HPP.out _).mono ?_
        rintro e w5 ⟨hret, hb5⟩
        clear HPP
        generalize ptcP (partP (ls.drop i)).1 = pq at *
        obtain ⟨⟨qc, qst, qs, qe, qm⟩, at1, er⟩ := pq
        obtain ⟨B1, d1, B4, d4, rfl, hps⟩ := hret
        simp only at HGO2 HPK hat1 hat2 HNX hps ⊢
        have hb6 : Below w5.heap.size w5 (w5.alloc (.cells #[.string qc, .slice B1 qst.length d1, .int .i64 qs, .int .i64 qe, .slice B4 qm.length d4] 63)) := bw_alloc (Below.refl _ _)
        obtain ⟨A0, n0, c0, A1, n1, c1, rr, pp, hy⟩ := (hin.mono hb5).mono hb6
        have bq7 := Box.new w5 [.string qc, .slice B1 qst.length d1, .int .i64 qs, .int .i64 qe, .slice B4 qm.length d4] 63
        have hpa : PtcAtS (w5.alloc (.cells #[.string qc, .slice B1 qst.length d1, .int .i64 qs, .int .i64 qe, .slice B4 qm.length d4] 63)) ⟨qc, B1, qst.length, d1, qs, qe, B4, qm.length, d4⟩ ⟨qc, qst, qs, qe, qm⟩ := ⟨rfl, rfl, rfl, rfl, rfl, hps.mono hb6⟩
        clear hin hbel hbp hbr hbL hb5 hb6 hps
        go_upto_region 17 with fail
        generalize World.alloc w5 _ = w7 at *
        by_cases her : er = 0
        case neg =>
          have HB : Hid (R = (zPol, (i : Int) + max at1 1, er)) := by
            show _ = _
            rw [HGO2.out, if_pos her]
            have : ((i + 1 : Nat) : Int) + max at1 1 - 1 = (i : Int) + max at1 1 := by omega
            rw [this]
          have ter : (er != 0) = true := by simpa using her
          have br4 := hy.br
          have bl4 := hy.bel
          clear her HGO2 HPK HNX HF
          have q0 := br4.cell 0 rfl
          have q1 := br4.cell 1 rfl
          have qf := fun i => br4.free i
          have ql := br4.lt
          obtain ⟨hbz, hgz⟩ := br4.store2 (.slice none 0 0) (.slice none 0 0)
          have hbwz := bl4.grown hgz bl4.size (fun k hk => by injection hk with hk; omega)
          have y0 := hbz.cell 0 rfl
          have y1 := hbz.cell 1 rfl
          go_wp2_with fail
          refine bodyPost_ret (v := .tuple #[.agg #[.slice none 0 0, .slice none 0 0], .int .i64 ((i : Int) + max at1 1), .int .i64 er]) (by simp [results, Tryz.results16, go_sem, y0, y1]) rfl ⟨?_, hbwz⟩
          rw [HB.out]
          exact retPol_bad
        subst her
        obtain ⟨q, hq0, hq1, hq2, hq3, hq4⟩ := HNX.out rfl
        obtain ⟨A', n', c', w8, hrun, hbp8, hy8⟩ := hy.pushP hpa (by omega)
        unfold cellsRPtc at hrun
        have HM2 : Hid (MidL R ls q rs (ps ++ [⟨qc, qst, qs, qe, qm⟩])) := ⟨⟨f, by
            have h1 := HF.out
            rw [List.length_drop] at h1 ⊢
            omega, by rw [HGO2.out, if_neg (by simp), hq3, hq4]⟩, HM.out.okr, fun z hz => by
          rcases List.mem_append.1 hz with hz | hz
          · exact HM.out.okp z hz
          · simp at hz; subst hz; exact HPK.out⟩
        subst hq0
        have p1 := hy.bp.cell 1 rfl
        have pl := hy.bp.lt
        have b0 := bq7.cell 0 rfl
        have b1 := bq7.cell 1 rfl
        have b2 := bq7.cell 2 rfl
        have b3 := bq7.cell 3 rfl
        have b4 := bq7.cell 4 rfl
        have bl := bq7.lt
        have z1 := hbp8.cell 1 rfl
        have zf := fun i => hbp8.free i
        have zl := hbp8.lt
        clear hq3 hq4 HNX HGO2 HPK HF hpa
        go_wp2_with (at_builtin; refine wpList_appendRun rfl (.tmp 97) (.tmp 99) 23 rfl rfl rfl hrun ?_)
        go_roundw
        case rel => exact ⟨q, _, rfl, hq2, by rw [List.length_append]; simp; omega, ⟨_, _, _, _, _, _, _, _, hy8⟩, HM2⟩
        case measure => simp [intOf]; omega
    · obtain rfl : i = out.length := by omega
      have HGO : Hid (R = if toL rest ≠ [] then (zPol, ((out.length + 1 : Nat) : Int), 2) else if (polE ⟨rs, ps⟩).2 ≠ 0 then (zPol, 0, (polE ⟨rs, ps⟩).2) else (⟨rs, ps⟩, 0, 0)) := by
        obtain ⟨f, hf, hR⟩ := HM.out.go
        rw [HLAST.out] at hf hR
        obtain ⟨f, rfl⟩ : ∃ f', f = f' + 1 := ⟨f - 1, by simp at hf; omega⟩
        show _ = _
        rw [hR, ph2]
      obtain ⟨A0, n0, c0, A1, n1, c1, rr, pp, hy⟩ := hin
      clear hlt
      cases hte : rest.toList.isEmpty with
      | false =>
        have hne : rest.toList ≠ [] := fun h => by rw [h] at hte; simp at hte
        have hne2 : (rest.toList != ([] : List UInt8)) = true := by simpa using hne
        have HB : Hid (R = (zPol, ((out.length : Int) + 1), 2)) := by show _ = _; rw [HGO.out, if_pos (by rw [← ByteArray.toList_eq' rest]; exact hne)]; rfl
        have br4 := hy.br
        have bl4 := hy.bel
        clear HGO
        have q0 := br4.cell 0 rfl
        have q1 := br4.cell 1 rfl
        have qf := fun i => br4.free i
        have ql := br4.lt
        obtain ⟨hbz, hgz⟩ := br4.store2 (.slice none 0 0) (.slice none 0 0)
        have hbwz := bl4.grown hgz bl4.size (fun k hk => by injection hk with hk; omega)
        have y0 := hbz.cell 0 rfl
        have y1 := hbz.cell 1 rfl
        go_wp2_with fail
        refine bodyPost_ret (v := .tuple #[.agg #[.slice none 0 0, .slice none 0 0], .int .i64 ((out.length : Int) + 1), .int .i64 2]) (by simp [results, Tryz.results16, go_sem, y0, y1]) rfl ⟨?_, hbwz⟩
        rw [HB.out]
        exact retPol_bad
      | true =>
        have hte2 : rest.toList = [] := List.isEmpty_iff.1 hte
        have HGO2 : Hid (R = if (polE ⟨rs, ps⟩).2 ≠ 0 then (zPol, 0, (polE ⟨rs, ps⟩).2) else (⟨rs, ps⟩, 0, 0)) := by show _ = _; rw [HGO.out, if_neg (by rw [← ByteArray.toList_eq' rest, hte2]; simp)]
        have HTE := Lib.hid hte2
        clear HGO hte2
        have hne2 : (rest.toList != ([] : List UInt8)) = false := by rw [HTE.out]; rfl
        obtain ⟨A0', c0', hv0, hc0, hs0⟩ := hy.or.slR (M := Lay.rul) cellsRRul_ok rfl hy.ar.len (fun i x y hx hy' => (hy.ar.each i x y hx hy').rep)
        injection hv0 with z1 z2 z3
        subst z1 z2 z3
        obtain ⟨A1', c1', hv1, hc1, hs1⟩ := hy.op.slR (M := Lay.ptc) cellsRPtc_ok rfl hy.ap.len (fun i x y hx hy' => (hy.ap.each i x y hx hy').rep)
        injection hv1 with z1 z2 z3
        subst z1 z2 z3
        have HCK : Hid (∀ W, Below wr.heap.size wr W → Calls Tryz.prog 11 #[.agg #[.slice A0 rs.length c0, .slice A1 ps.length c1]] W fun e w' => e = .returned (.tuple #[.int .i64 (polE ⟨rs, ps⟩).1, .int .i64 (polE ⟨rs, ps⟩).2]) ∧ Below W.heap.size W w') := fun W hW => refPolCheck_any ⟨rs, ps⟩ A0 A1 c0 c1 W (Lib.hid ⟨by show rs.length ≤ _; omega, by show ps.length ≤ _; omega, HM.out.okr, HM.out.okp⟩) hc1 (hs0.mono hW) (hs1.mono hW)
        generalize polE ⟨rs, ps⟩ = pe at *
        obtain ⟨pe1, pe2⟩ := pe
        simp only at HCK HGO2
        have p0 := hy.bp.cell 0 rfl
        have p1 := hy.bp.cell 1 rfl
        have pl := hy.bp.lt
        go_wp2_with fail
        refine (HCK.out _ (Below.refl _ _)).mono ?_
        rintro e w4 ⟨rfl, hb4⟩
        have hy3 := hy.mono hb4
        have br4 := hy3.br
        have bl4 := hy3.bel
        clear p0 p1 pl hy hs0 hs1 HCK
        by_cases hpe : pe2 = 0
        case neg =>
          have HB : Hid (R = (zPol, 0, pe2)) := by show _ = _; rw [HGO2.out, if_pos hpe]
          have tpe : (pe2 != 0) = true := by simpa using hpe
          clear hpe HGO2
          have q0 := br4.cell 0 rfl
          have q1 := br4.cell 1 rfl
          have qf := fun i => br4.free i
          have ql := br4.lt
          obtain ⟨hbz, hgz⟩ := br4.store2 (.slice none 0 0) (.slice none 0 0)
          have hbwz := bl4.grown hgz bl4.size (fun k hk => by injection hk with hk; omega)
          have y0 := hbz.cell 0 rfl
          have y1 := hbz.cell 1 rfl
          go_wp2_with fail
          refine bodyPost_ret (v := .tuple #[.agg #[.slice none 0 0, .slice none 0 0], .int .i64 0, .int .i64 pe2]) (by simp [results, Tryz.results16, go_sem, y0, y1]) rfl ⟨?_, hbwz⟩
          rw [HB.out]
          exact retPol_bad
        subst hpe
        have HB : Hid (R = (⟨rs, ps⟩, 0, 0)) := by show _ = _; rw [HGO2.out, if_neg (by simp)]
        have p0 := hy3.bp.cell 0 rfl
        have p1 := hy3.bp.cell 1 rfl
        have pl := hy3.bp.lt
        have q0 := br4.cell 0 rfl
        have q1 := br4.cell 1 rfl
        have qf := fun i => br4.free i
        have ql := br4.lt
        obtain ⟨hbz, hgz⟩ := br4.store2 (.slice A0 rs.length c0) (.slice A1 ps.length c1)
        have hbwz := bl4.grown hgz bl4.size (fun k hk => by injection hk with hk; omega)
        have y0 := hbz.cell 0 rfl
        have y1 := hbz.cell 1 rfl
        go_wp2_with fail
        refine bodyPost_ret (v := .tuple #[.agg #[.slice A0 rs.length c0, .slice A1 ps.length c1], .int .i64 0, .int .i64 0]) (by simp [results, Tryz.results16, go_sem, y0, y1]) rfl ⟨?_, hbwz⟩
        rw [HB.out]
        have kB := br4.rowTyK
        have horz := hy3.or.keptK kB (by decide) hgz
        have hopz := hy3.op.keptK kB (by decide) hgz
        have harz := hy3.ar.imp (fun a b k => k.keptK kB (by decide) hgz)
        have hapz := hy3.ap.imp (fun a b k => k.keptK kB (by decide) (by decide) hgz)
        obtain ⟨A0', c0', hv0, hc0', hs0'⟩ := horz.slR (M := Lay.rul) cellsRRul_ok rfl harz.len (fun i x y hx hy' => (harz.each i x y hx hy').rep)
        injection hv0 with z1 z2 z3
        subst z1 z3
        obtain ⟨A1', c1', hv1, hc1', hs1'⟩ := hopz.slR (M := Lay.ptc) cellsRPtc_ok rfl hapz.len (fun i x y hx hy' => (hapz.each i x y hx hy').rep)
        injection hv1 with z1 z2 z3
        subst z1 z3
        exact ⟨A0, c0, A1, c1, rfl, hc0', hs0', hc1', hs1'⟩
end Go.Proofs.YthabojhnliomnaaGreatDoor

namespace Go.Proofs.YthabojhnliomnaaGreatDoor
open Go.RowKit
set_option linter.unusedVariables false

set_option maxRecDepth 100000 in
set_option maxHeartbeats 4000000 in
theorem walk_PolicyParses (s : ByteArray) (w : World) (hg : Glob w) :
    Calls Tryz.prog 5 #[.string s] w fun e w' => e = .returned (.bool true) ∧ Below w.heap.size w w' := by
  have HW := Lib.hid (fun W h => awake_any W (hg.mono h))
  have HP := Lib.hid (fun W h => polParse_any s W (hg.mono h))
  have HQ := Lib.hid (fun W => refPolParse_any s W)
  have HOK : Hid (Hid (OkPol (polP s).1)) := by
    rcases polP_cases s with h | ⟨_, h⟩
    · obtain ⟨q, a, f, hq⟩ : ∃ q a f, polP s = (q, a, f) := ⟨_, _, _, rfl⟩
      rw [hq] at h ⊢
      simp only at h
      subst h
      exact Lib.hid (Lib.hid (okPol_of (textR_ok (by rw [text_polP hq]))))
    · rw [h]
      exact Lib.hid (Lib.hid ⟨Nat.zero_le _, Nat.zero_le _, by simp [zPol], by simp [zPol]⟩)
  generalize polP s = R at *
  obtain ⟨q, at1, f⟩ := R
  simp only at HOK
  go_enter Tryz.func5, Tryz.ntmps5
  go_wp2_with fail
  refine (HP.out _ (Below.refl _ _)).mono ?_
  rintro e w1 ⟨⟨A0, n0, A1, n1, rfl, k1, k2, k3, k4⟩, hb1⟩
  simp only at k1 k2 k3 k4 ⊢
  have P : Below w1.heap.size w1 (w1.alloc (.cells #[.slice A0 q.rules.length n0, .slice A1 q.protocols.length n1] 25)) := bw_alloc (Below.refl _ _)
  have bx1 := Box.new w1 [.slice A0 q.rules.length n0, .slice A1 q.protocols.length n1] 25
  have hbw1 := below_step hb1 P
  have k2' := k2.mono P
  have k4' := k4.mono P
  clear hb1 P k2 k4
  go_upto_region 2 with fail
  generalize World.alloc w1 _ = w2 at *
  generalize w1.heap.size = b1 at *
  go_wp2_with fail
  refine (HQ.out _).mono ?_
  rintro e w3 ⟨⟨B0, m0, B1, m1, rfl, j1, j2, j3, j4⟩, hb3⟩
  simp only at j1 j2 j3 j4 ⊢
  have Q : Below w3.heap.size w3 (w3.alloc (.cells #[.slice B0 q.rules.length m0, .slice B1 q.protocols.length m1] 25)) := bw_alloc (Below.refl _ _)
  have by1 := Box.new w3 [.slice B0 q.rules.length m0, .slice B1 q.protocols.length m1] 25
  have bx2 := (bx1.mono hb3).mono Q
  have hbw3 := below_step (below_step hbw1 hb3) Q
  have HS := Lib.hid (polSame q A0 B0 A1 B1 n0 m0 n1 m1 _ HOK.out ((k2'.mono hb3).mono Q) (j2.mono Q) ((k4'.mono hb3).mono Q) (j4.mono Q))
  clear hb3 Q k2' k4' j2 j4 bx1 hbw1
  go_upto_region 3 with fail
  generalize World.alloc w3 _ = w4 at *
  generalize w3.heap.size = b2 at *
  have t1 : (at1 == at1) = true := by simp
  have t2 : (f == f) = true := by simp
  have x0 := bx2.cell 0 rfl
  have x1 := bx2.cell 1 rfl
  have xl := bx2.lt
  have y0 := by1.cell 0 rfl
  have y1 := by1.cell 1 rfl
  have yl := by1.lt
  go_wp2_with fail
  refine HS.out.mono ?_
  rintro e w5 ⟨rfl, hb5⟩
  have hbw5 := below_step hbw3 hb5
  clear x0 x1 xl y0 y1 yl bx2 by1 HS
  go_wp2_with fail
  refine (HW.out _ hbw5).mono ?_
  rintro e w6 ⟨rfl, hb6⟩
  go_wp2_with fail
  go_ret
  exact ⟨rfl, below_step hbw5 hb6⟩
end Go.Proofs.YthabojhnliomnaaGreatDoor
