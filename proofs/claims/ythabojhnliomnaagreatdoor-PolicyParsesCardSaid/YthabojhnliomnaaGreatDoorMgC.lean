/-
  Joined (wip/merge.py): BckA, BckB, BckC, SamA, SamB, BckD.
-/
import Derived.Test.YthabojhnliomnaaGreatDoorMgB
import Derived.Test.YthabojhnliomnaaGreatDoorTxtG

namespace Go.Proofs.YthabojhnliomnaaGreatDoor
open Go.RowKit
set_option linter.unusedVariables false

theorem ident_free {s : ByteArray} {c : UInt8} (h : identB s = true) (hc : partU c = false) : c ∉ toL s := by
  unfold identB at h
  simp only [Bool.and_eq_true] at h
  intro hm
  have := List.all_eq_true.1 h.1.2 c hm
  rw [hc] at this
  cases this
theorem ident_ne {s : ByteArray} (h : identB s = true) : toL s ≠ [] := by
  unfold identB at h
  simp only [Bool.and_eq_true, decide_eq_true_eq] at h
  intro e
  have := h.1.1.1.1
  rw [← toL_len, e] at this
  simp at this
structure RulI (x : Rul) : Prop where
  c : identB x.cls = true
  m : identB x.mth = true
  t : identB x.tag = true
  f : ∀ y ∈ x.pth.fields, identB y = true
theorem rulE_ids {x : Rul} (h : rulE x = 0) : RulI x := by
  have hv := rulE_ok h
  obtain ⟨_, _, _, _, a5⟩ := acpE_ok hv.pth.ok
  unfold rulE at h
  rw [if_neg (fun e => e hv.kind)] at h
  by_cases h2 : (!(identB x.cls && identB x.mth && identB x.tag)) = true
  · rw [if_pos h2] at h; omega
  have h2' : identB x.cls = true ∧ identB x.mth = true ∧ identB x.tag = true := by
    cases a : identB x.cls <;> cases b : identB x.mth <;> cases c : identB x.tag <;> simp [a, b, c] at h2 ⊢
  exact ⟨h2'.1, h2'.2.1, h2'.2.2, fun y hy => List.all_eq_true.1 a5 y hy⟩
theorem p32 : partU 32 = false := by kernel_rfl
theorem p10 : partU 10 = false := by kernel_rfl
theorem p46 : partU 46 = false := by kernel_rfl
theorem p42 : partU 42 = false := by kernel_rfl
theorem suf_iff {l : List UInt8} {c : UInt8} : Lib.hasSuffix (l ++ [c]) [c] = true ∧ Lib.trimSuffix (l ++ [c]) [c] = l := by
  have h : Lib.hasSuffix (l ++ [c]) [c] = true := by
    unfold Lib.hasSuffix
    rw [List.isSuffixOf_iff_suffix]
    exact ⟨l, rfl⟩
  refine ⟨h, ?_⟩
  unfold Lib.trimSuffix
  rw [if_pos h]
  simp
theorem suf_free {l : List UInt8} {c : UInt8} (h : c ∉ l) : Lib.hasSuffix l [c] = false ∧ Lib.trimSuffix l [c] = l := by
  have h1 : Lib.hasSuffix l [c] = false := by
    cases hq : Lib.hasSuffix l [c] with
    | false => rfl
    | true =>
      unfold Lib.hasSuffix at hq
      rw [List.isSuffixOf_iff_suffix] at hq
      obtain ⟨t, rfl⟩ := hq
      simp at h
  refine ⟨h1, ?_⟩
  unfold Lib.trimSuffix
  rw [h1]
  simp
theorem glue_flat (c : UInt8) (a : List UInt8) (l : List (List UInt8)) : glue c (a :: l) = a ++ l.flatMap (fun x => c :: x) := by
  induction l generalizing a with
  | nil => simp [glue]
  | cons b t ih => rw [glue, ih, List.flatMap_cons]; simp
theorem spl_flat {c : UInt8} {a : List UInt8} {l : List (List UInt8)} (ha : c ∉ a) (hl : ∀ x ∈ l, c ∉ x) : spl c (a ++ l.flatMap (fun x => c :: x)) = a :: l := by
  rw [← glue_flat, spl_glue (by simp)]
  intro x hx
  rcases List.mem_cons.1 hx with rfl | hx
  · exact ha
  · exact hl x hx
theorem rootT_free {x : Acp} (h : AcpV x) {c : UInt8} (hc : c = 46 ∨ c = 42 ∨ c = 32 ∨ c = 10) : c ∉ rootT x := by
  unfold rootT
  split
  · obtain ⟨m, hm⟩ : ∃ m : Nat, x.n = m := ⟨x.n.toNat, by have := h.n0; omega⟩
    have h6 : m ≤ 6 := by have := h.n6; omega
    rw [hm, Int.toNat_natCast, digit_small h6]
    unfold wArg
    rcases (show m = 0 ∨ m = 1 ∨ m = 2 ∨ m = 3 ∨ m = 4 ∨ m = 5 ∨ m = 6 by omega) with rfl | rfl | rfl | rfl | rfl | rfl | rfl <;> rcases hc with rfl | rfl | rfl | rfl <;> decide
  · rcases hc with rfl | rfl | rfl | rfl <;> decide
theorem rootP_rootT {x : Acp} (h : AcpV x) : rootP (rootT x) = (x.root, x.n, true) := by
  obtain ⟨m, hm⟩ : ∃ m : Nat, x.n = m := ⟨x.n.toNat, by have := h.n0; omega⟩
  have h6 : m ≤ 6 := by have := h.n6; omega
  rcases h.root with e | e
  · unfold rootT
    rw [if_pos e, hm, Int.toNat_natCast, digit_small h6, e]
    rcases (show m = 0 ∨ m = 1 ∨ m = 2 ∨ m = 3 ∨ m = 4 ∨ m = 5 ∨ m = 6 by omega) with rfl | rfl | rfl | rfl | rfl | rfl | rfl <;> decide
  · have hn : x.n = 0 := by
      obtain ⟨_, _, a3, _, _⟩ := acpE_ok h.ok
      rw [e] at a3
      have h2 : mostI 2 = 0 := rfl
      have := h.n0
      omega
    unfold rootT
    rw [if_neg (by omega), e, hn]
    decide
theorem acpP_acpT {x : Acp} (h : AcpV x) (hf : ∀ y ∈ x.fields, identB y = true) : acpP (acpT x) = (x, 0) := by
  have hb : (42 : UInt8) ∉ rootT x ++ fldT x.fields := by
    intro hm
    rcases List.mem_append.1 hm with hm | hm
    · exact rootT_free h (by simp) hm
    · unfold fldT at hm
      rw [List.mem_flatMap] at hm
      obtain ⟨y, hy, hm⟩ := hm
      rcases List.mem_cons.1 hm with hm | hm
      · cases hm
      · exact ident_free (hf y hy) p42 hm
  have h1 : acpBody (acpT x) = rootT x ++ fldT x.fields ∧ acpStar (acpT x) = x.star := by
    unfold acpBody acpStar acpT
    cases hs : x.star with
    | true => exact ⟨(suf_iff (c := 42)).2, (suf_iff (c := 42)).1⟩
    | false =>
      simp only [Bool.false_eq_true, if_false, List.append_nil]
      exact ⟨(suf_free hb).2, (suf_free hb).1⟩
  have h2 : acpWs (acpT x) = bsOf (rootT x) :: x.fields := by
    unfold acpWs wds
    rw [h1.1, toL_bsOf]
    have e : fldT x.fields = (x.fields.map toL).flatMap (fun y => 46 :: y) := by unfold fldT; rw [List.flatMap_map]
    rw [e, spl_flat (rootT_free h (by simp)) (fun y hy => by
      obtain ⟨z, hz, rfl⟩ := List.mem_map.1 hy
      exact ident_free (hf z hz) p46)]
    rw [List.map_cons, List.map_map]
    congr 1
    have : (bsOf ∘ toL) = id := by funext z; exact mk_toL z
    rw [this, List.map_id]
  have h3 : acpRt (acpT x) = (x.root, x.n, true) := by
    unfold acpRt
    rw [h2]
    exact rootP_rootT h
  have h4 : acpOf (acpT x) = x := by
    unfold acpOf
    rw [h3, h2, h1.2]
    rfl
  unfold acpP
  rw [h3, h4, h2, if_neg (by simp), if_neg, if_neg (by rw [h.ok]; simp)]
  rw [List.tail_cons, Bool.not_eq_true, List.any_eq_false]
  intro y hy
  unfold badF
  have e1 : y.toList.isEmpty = false := by
    rw [ByteArray.toList_eq' y]
    cases hq : toL y with
    | nil => exact absurd hq (ident_ne (hf y hy))
    | cons a b => rfl
  rw [e1, decide_eq_false (ident_free (hf y hy) p42)]
  simp
def ruleLn (x : Rul) : List UInt8 := toL (wordS x.kind) ++ [32] ++ toL x.cls ++ [32] ++ toL x.mth ++ [32] ++ acpT x.pth ++ [32] ++ toL x.tag
theorem acpT_free {x : Acp} (h : AcpV x) (hf : ∀ y ∈ x.fields, identB y = true) {c : UInt8} (hc : c = 32 ∨ c = 10) : c ∉ acpT x := by
  intro hm
  have hp : partU c = false := by rcases hc with rfl | rfl <;> kernel_rfl
  unfold acpT at hm
  rcases List.mem_append.1 hm with hm | hm
  · rcases List.mem_append.1 hm with hm | hm
    · exact rootT_free h (by rcases hc with rfl | rfl <;> simp) hm
    · unfold fldT at hm
      rw [List.mem_flatMap] at hm
      obtain ⟨y, hy, hm⟩ := hm
      rcases List.mem_cons.1 hm with hm | hm
      · rcases hc with rfl | rfl <;> cases hm
      · exact ident_free (hf y hy) hp hm
  · split at hm
    · simp at hm; rcases hc with rfl | rfl <;> cases hm
    · simp at hm
theorem acpT_ne (x : Acp) : acpT x ≠ [] := by
  unfold acpT rootT wArg wRes
  split <;> simp
theorem ruleP_ruleLn {x : Rul} (h : rulE x = 0) : ruleP (bsOf (ruleLn x)) = (x, 0) := by
  have hv := rulE_ok h
  have hi := rulE_ids h
  have hk : (32 : UInt8) ∉ toL (wordS x.kind) ∧ toL (wordS x.kind) ≠ [] ∧ kindP (wordS x.kind) = x.kind := by
    rcases hv.kind with e | e | e <;> rw [e] <;> exact ⟨by decide, by decide, by decide⟩
  have hw : wds 32 (bsOf (ruleLn x)) = [wordS x.kind, x.cls, x.mth, bsOf (acpT x.pth), x.tag] := by
    unfold wds
    rw [toL_bsOf]
    have e : ruleLn x = toL (wordS x.kind) ++ [toL x.cls, toL x.mth, acpT x.pth, toL x.tag].flatMap (fun y => 32 :: y) := by
      unfold ruleLn
      simp
    rw [e, spl_flat hk.1 (fun y hy => by
      simp at hy
      rcases hy with rfl | rfl | rfl | rfl
      · exact ident_free hi.c p32
      · exact ident_free hi.m p32
      · exact acpT_free hv.pth hi.f (Or.inl rfl)
      · exact ident_free hi.t p32)]
    simp only [List.map_cons, List.map_nil]
    have m1 : ∀ a : ByteArray, bsOf (toL a) = a := fun a => mk_toL a
    rw [m1, m1, m1, m1]
  have hE : hasE [wordS x.kind, x.cls, x.mth, bsOf (acpT x.pth), x.tag] = false := by
    cases hq : hasE [wordS x.kind, x.cls, x.mth, bsOf (acpT x.pth), x.tag] with
    | false => rfl
    | true =>
      rw [hasE_iff] at hq
      simp only [List.mem_cons, List.not_mem_nil, or_false] at hq
      have z : ∀ a : ByteArray, (⟨#[]⟩ : ByteArray) = a → toL a = [] := fun a e => by rw [← e]; rfl
      rcases hq with e | e | e | e | e
      · exact absurd (z _ e) hk.2.1
      · exact absurd (z _ e) (ident_ne hi.c)
      · exact absurd (z _ e) (ident_ne hi.m)
      · exact absurd (z _ e) (acpT_ne _)
      · exact absurd (z _ e) (ident_ne hi.t)
  unfold ruleP
  rw [hw, hE, if_neg (by simp)]
  show ruleW _ _ _ _ _ = _
  unfold ruleW
  rw [hk.2.2, if_neg (by rcases hv.kind with e | e | e <;> omega), toL_bsOf, acpP_acpT hv.pth hi.f, if_neg (by simp)]
theorem begP_ruleLn {x : Rul} (h : rulE x = 0) : begP (ruleLn x) = false := by
  have hv := rulE_ok h
  have e : ruleLn x = toL (wordS x.kind) ++ 32 :: (toL x.cls ++ [32] ++ toL x.mth ++ [32] ++ acpT x.pth ++ [32] ++ toL x.tag) := by
    unfold ruleLn
    simp
  unfold begP
  rw [e, spl_mid (by rcases hv.kind with e | e | e <;> rw [e] <;> decide)]
  show (toL (wordS x.kind) == wPro) = false
  rcases hv.kind with e | e | e <;> rw [e] <;> decide
end Go.Proofs.YthabojhnliomnaaGreatDoor

namespace Go.Proofs.YthabojhnliomnaaGreatDoor
open Go.RowKit
set_option linter.unusedVariables false

def lnW (ws : List ByteArray) : List UInt8 := glue 32 (ws.map toL)
theorem lnW_wds (x : List UInt8) : lnW (wds 32 (bsOf x)) = x := by unfold lnW; rw [wds_toL, toL_bsOf, glue_spl]
theorem map_bs (l : List ByteArray) : (l.map toL).map bsOf = l := by
  rw [List.map_map]
  have : (bsOf ∘ toL) = id := by funext z; exact mk_toL z
  rw [this, List.map_id]
theorem wds_lnW {ws : List ByteArray} (h : ws ≠ []) (hf : ∀ x ∈ ws, (32 : UInt8) ∉ toL x) : wds 32 (bsOf (lnW ws)) = ws := by
  unfold wds lnW
  rw [toL_bsOf, spl_glue (by simpa using h) (fun y hy => by obtain ⟨z, hz, rfl⟩ := List.mem_map.1 hy; exact hf z hz), map_bs]
def bPro : ByteArray := bsOf [112, 114, 111, 116, 111, 99, 111, 108]
def bSts : ByteArray := bsOf [115, 116, 97, 116, 101, 115]
def bSta : ByteArray := bsOf [115, 116, 97, 114, 116]
def bErr : ByteArray := bsOf [101, 114, 114, 111, 114]
def bMov : ByteArray := bsOf [109, 111, 118, 101]
def bEnd : ByteArray := bsOf [101, 110, 100]
def mvW (st : List ByteArray) (m : Mov) : List ByteArray := [bMov, stN st m.src, m.mth, stN st m.dst]
def hdW (c : ByteArray) (st : List ByteArray) (sa er : Int) : List (List ByteArray) := [[bPro, c], bSts :: st, [bSta, stN st sa], [bErr, stN st er]]
/-- The words of the lines that were read. -/
def WR (r : Rd) : List (List ByteArray) := match r.stage with
  | 0 => []
  | 1 => [[bPro, r.cls]]
  | 2 => [[bPro, r.cls], bSts :: r.states]
  | 3 => [[bPro, r.cls], bSts :: r.states, [bSta, stN r.states r.start]]
  | 4 => hdW r.cls r.states r.start r.err ++ r.moves.map (mvW r.states)
  | _ => hdW r.cls r.states r.start r.err ++ r.moves.map (mvW r.states) ++ [[bEnd]]
def ptcW (p : Ptc) : List (List ByteArray) := hdW p.cls p.states p.start p.err ++ p.moves.map (mvW p.states) ++ [[bEnd]]
theorem at_stN {l : List ByteArray} {s : ByteArray} (h : 0 ≤ atI l s) : stN l (atI l s) = s := by
  unfold atI at *
  cases hf : l.findIdx? (fun x => x.toList == s.toList) with
  | none => rw [hf] at h; simp at h
  | some i =>
    obtain ⟨hi, h1, _⟩ := List.findIdx?_eq_some_iff_getElem.1 hf
    show stN l (i : Int) = s
    unfold stN
    rw [Int.toNat_natCast, List.getElem?_eq_getElem hi]
    apply toL_inj
    rw [beq_iff_eq, ByteArray.toList_eq' l[i], ByteArray.toList_eq' s] at h1
    exact h1
theorem ws1 {ws : List ByteArray} {L : List UInt8} (h : toL (ws.headD ⟨#[]⟩) = L ∧ ws.length = 1) : ws = [bsOf L] := by
  match ws, h with
  | [a], h => rw [bsOf_toL (a := a) h.1]
theorem ws2 {ws : List ByteArray} {L : List UInt8} (h : toL (ws.headD ⟨#[]⟩) = L ∧ ws.length = 2) : ws = [bsOf L, ws.getD 1 ⟨#[]⟩] := by
  match ws, h with
  | [a, b], h => rw [← bsOf_toL (a := a) h.1]; rfl
theorem ws4 {ws : List ByteArray} {L : List UInt8} (h : toL (ws.headD ⟨#[]⟩) = L ∧ ws.length = 4) : ws = [bsOf L, ws.getD 1 ⟨#[]⟩, ws.getD 2 ⟨#[]⟩, ws.getD 3 ⟨#[]⟩] := by
  match ws, h with
  | [a, b, c, d], h => rw [← bsOf_toL (a := a) h.1]; rfl
theorem wsN {ws : List ByteArray} {L : List UInt8} (h : toL (ws.headD ⟨#[]⟩) = L ∧ 2 ≤ ws.length) : ws = bsOf L :: ws.tail := by
  match ws, h with
  | a :: t, h => rw [← bsOf_toL (a := a) h.1]; rfl
theorem stepR_W {r r' : Rd} {ws : List ByteArray} (hs : stepR r ws = (r', 0)) (hm : r.stage < 4 → r.moves = []) : (r'.stage < 4 → r'.moves = []) ∧ WR r' = WR r ++ [ws] := by
  obtain ⟨c, st, sa, er, mv, sg⟩ := r
  unfold stepR at hs
  match sg with
  | 0 =>
    simp only at hs hm
    split at hs
    · rename_i hc
      obtain ⟨rfl, _⟩ := Prod.mk.inj hs
      refine ⟨fun _ => hm (by omega), ?_⟩
      rw [ws2 hc]
      rfl
    · cases (Prod.mk.inj hs).2
  | 1 =>
    simp only at hs hm
    split at hs
    · rename_i hc
      obtain ⟨rfl, _⟩ := Prod.mk.inj hs
      refine ⟨fun _ => hm (by omega), ?_⟩
      rw [wsN hc]
      rfl
    · cases (Prod.mk.inj hs).2
  | 2 =>
    simp only at hs hm
    split at hs
    · rename_i hc
      split at hs
      · rename_i ha
        obtain ⟨rfl, _⟩ := Prod.mk.inj hs
        refine ⟨fun _ => hm (by omega), ?_⟩
        rw [ws2 hc]
        show [[bPro, c], bSts :: st, [bSta, stN st (atI st (ws.getD 1 ⟨#[]⟩))]] = _
        rw [at_stN ha]
        rfl
      · cases (Prod.mk.inj hs).2
    · cases (Prod.mk.inj hs).2
  | 3 =>
    simp only at hs hm
    split at hs
    · rename_i hc
      split at hs
      · rename_i ha
        obtain ⟨rfl, _⟩ := Prod.mk.inj hs
        refine ⟨fun _ => hm (by omega), ?_⟩
        have := hm (by omega)
        subst this
        rw [ws2 hc]
        show [[bPro, c], bSts :: st, [bSta, stN st sa], [bErr, stN st (atI st (ws.getD 1 ⟨#[]⟩))]] = _
        rw [at_stN ha]
        rfl
      · cases (Prod.mk.inj hs).2
    · cases (Prod.mk.inj hs).2
  | 4 =>
    simp only at hs hm
    split at hs
    · rename_i hc
      obtain ⟨rfl, _⟩ := Prod.mk.inj hs
      refine ⟨fun h => by simp at h, ?_⟩
      rw [ws1 hc]
      rfl
    · split at hs
      · rename_i hc
        split at hs
        · rename_i ha
          obtain ⟨rfl, _⟩ := Prod.mk.inj hs
          refine ⟨fun h => by simp at h, ?_⟩
          rw [ws4 hc]
          show hdW c st sa er ++ (mv ++ [_]).map (mvW st) = hdW c st sa er ++ mv.map (mvW st) ++ _
          rw [List.map_append, List.append_assoc]
          show _ ++ (_ ++ [[bMov, stN st (atI st (ws.getD 1 ⟨#[]⟩)), ws.getD 2 ⟨#[]⟩, stN st (atI st (ws.getD 3 ⟨#[]⟩))]]) = _
          rw [at_stN ha.1, at_stN ha.2]
          rfl
        · cases (Prod.mk.inj hs).2
      · cases (Prod.mk.inj hs).2
  | n + 5 =>
    simp only at hs
    cases (Prod.mk.inj hs).2
theorem ptcGo_back : ∀ (ls : List (List UInt8)) (i : Nat) (r : Rd) (q : Ptc) (a : Int), ptcGo i r ls = (q, a, 0) → (r.stage < 4 → r.moves = []) → ∃ (r' : Rd) (ws : List (List ByteArray)), r'.stage = 5 ∧ q = r'.ptc ∧ ptcE q = 0 ∧ WR r' = WR r ++ ws ∧ ls = ws.map lnW ++ [[]]
  | [], i, r, q, a, h, _ => by simp [ptcGo] at h
  | [x], i, r, q, a, h, hm => by
    unfold ptcGo at h
    split at h
    · simp at h
    rename_i h5
    split at h
    · simp at h
    rename_i hx
    split at h
    · rename_i hn
      exact absurd (Prod.mk.inj (Prod.mk.inj h).2).2 hn
    rename_i he
    obtain ⟨rfl, _⟩ := Prod.mk.inj h
    exact ⟨r, [], by simpa using h5, rfl, by simpa using he, by simp, by simpa using hx⟩
  | x :: y :: t, i, r, q, a, h, hm => by
    unfold ptcGo at h
    split at h
    · simp at h
    split at h
    · rename_i hn
      exact absurd (Prod.mk.inj (Prod.mk.inj h).2).2 hn
    rename_i h0
    have h0' : (stepR r (wds 32 (bsOf x))).2 = 0 := by simpa using h0
    obtain ⟨m1, m2⟩ := stepR_W (r' := (stepR r (wds 32 (bsOf x))).1) (by rw [← h0']) hm
    obtain ⟨r', ws, k1, k2, k3, k4, k5⟩ := ptcGo_back (y :: t) (i + 1) _ q a h m1
    refine ⟨r', wds 32 (bsOf x) :: ws, k1, k2, k3, ?_, ?_⟩
    · rw [k4, m2]; simp
    · rw [List.map_cons, lnW_wds, k5]; rfl
theorem ptcP_back {ls : List (List UInt8)} {q : Ptc} {a : Int} (h : ptcP ls = (q, a, 0)) : ls = (ptcW q).map lnW ++ [[]] ∧ ptcE q = 0 := by
  obtain ⟨r', ws, k1, k2, k3, k4, k5⟩ := ptcGo_back ls 1 rd0 q a h (fun _ => rfl)
  refine ⟨?_, k3⟩
  have : WR rd0 = [] := rfl
  rw [this, List.nil_append] at k4
  rw [k5, ← k4, k2]
  obtain ⟨c, st, sa, er, mv, sg⟩ := r'
  have : sg = 5 := k1
  subst this
  rfl
theorem headT_lines (p : Ptc) : headT p = (hdW p.cls p.states p.start p.err).map lnW := by
  unfold headT hdW
  simp only [List.map_cons, List.map_nil]
  unfold lnW
  simp only [List.map_cons, List.map_nil, glue_flat, List.flatMap_cons, List.flatMap_nil, List.flatMap_map]
  simp [bPro, bSts, bSta, bErr, toL_bsOf, wProto, wStates, wStart, wError]
theorem moveT_line (st : List ByteArray) (m : Mov) : moveT st m = lnW (mvW st m) := by
  unfold lnW mvW moveT
  simp only [List.map_cons, List.map_nil, glue_flat, List.flatMap_cons, List.flatMap_nil]
  simp [bMov, toL_bsOf, wMove]
theorem ptcT_lines (p : Ptc) : ptcT p = lnT ((ptcW p).map lnW) := by
  have e : (ptcW p).map lnW = (headT p ++ p.moves.map (moveT p.states)) ++ [[101, 110, 100]] := by
    unfold ptcW
    rw [List.map_append, List.map_append, headT_lines, List.map_map]
    congr 2
    apply List.map_congr_left
    intro m _
    exact (moveT_line _ m).symm
  unfold ptcT lnT
  rw [e, List.flatMap_append (xs := headT p ++ p.moves.map (moveT p.states)) (ys := [[101, 110, 100]])]
  rfl
/-! ### The protocol is read from its lines -/
structure PtcI (p : Ptc) : Prop where
  c : identB p.cls = true
  l0 : p.states ≠ []
  s : ∀ y ∈ p.states, identB y = true
  d : ∀ i j (hi : i < p.states.length) (hj : j < p.states.length), i < j → p.states[i] ≠ p.states[j]
  m : ∀ x ∈ p.moves, identB x.mth = true
theorem ptcE_ids {p : Ptc} (h : ptcE p = 0) : PtcI p := by
  unfold ptcE at h
  by_cases h1 : identB p.cls = false
  · rw [if_pos h1] at h; omega
  rw [if_neg h1] at h
  by_cases h2 : 16 < p.states.length ∨ 256 < p.moves.length
  · rw [if_pos h2] at h; omega
  rw [if_neg h2] at h
  by_cases h3 : p.states.length = 0
  · rw [if_pos h3] at h; omega
  rw [if_neg h3] at h
  by_cases h4 : firstE (stF p.states) p.states.length ≠ 0
  · rw [if_pos h4] at h; exact absurd h h4
  rw [if_neg h4] at h
  by_cases h5 : ¬ (inSt p.states.length p.start ∧ inSt p.states.length p.err)
  · rw [if_pos h5] at h; omega
  rw [if_neg h5] at h
  by_cases h6 : p.start = p.err
  · rw [if_pos h6] at h; omega
  rw [if_neg h6] at h
  have h4' : firstE (stF p.states) p.states.length = 0 := by simpa using h4
  have hst : ∀ i (hi : i < p.states.length), identB p.states[i] = true ∧ ¬ 0 ≤ atI (p.states.take i) p.states[i] := fun i hi => by
    have := firstE_all h4' i hi
    rw [stF_at hi] at this
    by_cases e : identB p.states[i] = false
    · rw [if_pos e] at this; omega
    rw [if_neg e] at this
    refine ⟨by simpa using e, fun e2 => ?_⟩
    rw [if_pos e2] at this
    omega
  refine ⟨by simpa using h1, fun e => h3 (by rw [e]; rfl), fun y hy => ?_, fun i j hi hj hij e => ?_, fun x hx => ?_⟩
  · obtain ⟨i, hi, rfl⟩ := List.getElem_of_mem hy
    exact (hst i hi).1
  · refine (hst j hj).2 ?_
    rw [atI_iff, ← e]
    exact List.mem_iff_getElem.2 ⟨i, by rw [List.length_take]; omega, by simp⟩
  · obtain ⟨k, hk, rfl⟩ := List.getElem_of_mem hx
    have := firstE_all h k hk
    rw [mvF_at hk] at this
    by_cases e : ¬ (inSt p.states.length p.moves[k].src ∧ inSt p.states.length p.moves[k].dst)
    · rw [if_pos e] at this; omega
    rw [if_neg e] at this
    by_cases e2 : identB p.moves[k].mth = false
    · rw [if_pos e2] at this; omega
    · simpa using e2
theorem stN_mem {st : List ByteArray} {q : Int} (h : inSt st.length q) : stN st q ∈ st := by
  unfold inSt at h
  have hq : q.toNat < st.length := by omega
  unfold stN
  rw [List.getElem?_eq_getElem hq]
  exact List.getElem_mem hq
theorem stN_idx {p : Ptc} (hi : PtcI p) {q : Int} (h : inSt p.states.length q) : atI p.states (stN p.states q) = q := by
  unfold inSt at h
  have hq : q.toNat < p.states.length := by omega
  have e : stN p.states q = p.states[q.toNat] := by unfold stN; rw [List.getElem?_eq_getElem hq]; rfl
  rw [e, atI_at hq (by simp) (fun j hj hjq => by
    rw [beq_eq_false_iff_ne]
    intro h2
    rw [ByteArray.toList_eq' p.states[j], ByteArray.toList_eq' p.states[q.toNat]] at h2
    exact hi.d j q.toNat hj hq hjq (toL_inj h2))]
  omega
/-- Words that a line can hold. -/
def Fine (ws : List ByteArray) : Prop := ws ≠ [] ∧ ∀ x ∈ ws, (32 : UInt8) ∉ toL x ∧ (10 : UInt8) ∉ toL x ∧ toL x ≠ []
theorem ident_fine {x : ByteArray} (h : identB x = true) : (32 : UInt8) ∉ toL x ∧ (10 : UInt8) ∉ toL x ∧ toL x ≠ [] := ⟨ident_free h p32, ident_free h p10, ident_ne h⟩
theorem ptcGo_step {i : Nat} {r r' : Rd} {ws : List ByteArray} {y : List UInt8} {t : List (List UInt8)} (hf : Fine ws) (hs : stepR r ws = (r', 0)) : ptcGo i r (lnW ws :: y :: t) = ptcGo (i + 1) r' (y :: t) := by
  have hw := wds_lnW hf.1 (fun x hx => (hf.2 x hx).1)
  have hE : hasE ws = false := by
    cases hq : hasE ws with
    | false => rfl
    | true =>
      rw [hasE_iff] at hq
      exact absurd rfl (hf.2 _ hq).2.2
  conv => lhs; unfold ptcGo
  rw [hw, hE, if_neg (by simp), hs, if_neg (by simp)]
theorem lnW_no10 {ws : List ByteArray} (hf : Fine ws) : (10 : UInt8) ∉ lnW ws := by
  unfold lnW
  match ws, hf with
  | a :: t, hf =>
    rw [List.map_cons, glue_flat]
    intro hm
    rcases List.mem_append.1 hm with hm | hm
    · exact (hf.2 a (by simp)).2.1 hm
    · rw [List.mem_flatMap] at hm
      obtain ⟨y, hy, hm⟩ := hm
      obtain ⟨z, hz, rfl⟩ := List.mem_map.1 hy
      rcases List.mem_cons.1 hm with hm | hm
      · cases hm
      · exact (hf.2 z (by simp [hz])).2.1 hm
theorem lnW_end {ws : List ByteArray} (hf : Fine ws) (h2 : 2 ≤ ws.length) : lnW ws ≠ wE := by
  intro e
  have hw := wds_lnW hf.1 (fun x hx => (hf.2 x hx).1)
  rw [e] at hw
  have : wds 32 (bsOf wE) = [bEnd] := rfl
  rw [this] at hw
  rw [← hw] at h2
  simp at h2
theorem ptc_fine {p : Ptc} (h : ptcE p = 0) : (∀ ws ∈ hdW p.cls p.states p.start p.err ++ p.moves.map (mvW p.states), Fine ws ∧ 2 ≤ ws.length) ∧ Fine [bEnd] := by
  have hv := ptcE_ok h
  have hi := ptcE_ids h
  have hs : ∀ q, inSt p.states.length q → _ := fun q hq => ident_fine (hi.s _ (stN_mem hq))
  have w0 : ∀ b ∈ [bPro, bSts, bSta, bErr, bMov, bEnd], (32 : UInt8) ∉ toL b ∧ (10 : UInt8) ∉ toL b ∧ toL b ≠ [] := by decide
  refine ⟨fun ws hw => ?_, by simp, fun x hx => by simp at hx; subst hx; exact w0 _ (by simp)⟩
  rcases List.mem_append.1 hw with hw | hw
  · unfold hdW at hw
    simp only [List.mem_cons, List.not_mem_nil, or_false] at hw
    rcases hw with rfl | rfl | rfl | rfl
    · refine ⟨⟨by simp, fun x hx => ?_⟩, by simp⟩
      simp only [List.mem_cons, List.not_mem_nil, or_false] at hx
      rcases hx with rfl | rfl
      · exact w0 _ (by simp)
      · exact ident_fine hi.c
    · refine ⟨⟨by simp, fun x hx => ?_⟩, by have := List.length_pos_iff.2 hi.l0; simp; omega⟩
      rcases List.mem_cons.1 hx with rfl | hx
      · exact w0 _ (by simp)
      · exact ident_fine (hi.s x hx)
    · refine ⟨⟨by simp, fun x hx => ?_⟩, by simp⟩
      simp only [List.mem_cons, List.not_mem_nil, or_false] at hx
      rcases hx with rfl | rfl
      · exact w0 _ (by simp)
      · exact hs _ hv.start
    · refine ⟨⟨by simp, fun x hx => ?_⟩, by simp⟩
      simp only [List.mem_cons, List.not_mem_nil, or_false] at hx
      rcases hx with rfl | rfl
      · exact w0 _ (by simp)
      · exact hs _ hv.err
  · obtain ⟨m, hm, rfl⟩ := List.mem_map.1 hw
    obtain ⟨k, hk, rfl⟩ := List.getElem_of_mem hm
    obtain ⟨a1, a2, _⟩ := hv.mv k hk
    unfold mvW
    refine ⟨⟨by simp, fun x hx => ?_⟩, by simp⟩
    simp only [List.mem_cons, List.not_mem_nil, or_false] at hx
    rcases hx with rfl | rfl | rfl | rfl
    · exact w0 _ (by simp)
    · exact hs _ a1
    · exact ident_fine (hi.m _ hm)
    · exact hs _ a2
theorem ptcGo_moves {p : Ptc} (h : ptcE p = 0) : ∀ (ms mv : List Mov) (i : Nat), p.moves = mv ++ ms → ptcGo i ⟨p.cls, p.states, p.start, p.err, mv, 4⟩ (ms.map (fun m => lnW (mvW p.states m)) ++ [lnW [bEnd], []]) = (p, 0, 0)
  | [], mv, i, e => by
    have e' : mv = p.moves := by rw [e, List.append_nil]
    subst e'
    rw [List.map_nil, List.nil_append, ptcGo_step (ptc_fine h).2 (r' := ⟨p.cls, p.states, p.start, p.err, p.moves, 5⟩) rfl]
    unfold ptcGo
    rw [if_neg (by simp), if_neg (by simp), if_neg (fun hn => hn h)]
    rfl
  | m :: ms, mv, i, e => by
    have hmm : m ∈ p.moves := by rw [e]; simp
    obtain ⟨k, hk, hkm⟩ := List.getElem_of_mem hmm
    obtain ⟨a1, a2, _⟩ := (ptcE_ok h).mv k hk
    rw [hkm] at a1 a2
    have hst : stepR ⟨p.cls, p.states, p.start, p.err, mv, 4⟩ (mvW p.states m) = (⟨p.cls, p.states, p.start, p.err, mv ++ [m], 4⟩, 0) := by
      unfold stepR mvW
      simp only
      rw [if_neg (fun hc => by simp at hc), if_pos ⟨rfl, rfl⟩]
      have b1 := stN_idx (ptcE_ids h) a1
      have b2 := stN_idx (ptcE_ids h) a2
      show (if 0 ≤ atI p.states (stN p.states m.src) ∧ 0 ≤ atI p.states (stN p.states m.dst) then _ else _) = _
      rw [if_pos (by rw [b1, b2]; exact ⟨a1.1, a2.1⟩)]
      show ((⟨p.cls, p.states, p.start, p.err, mv ++ [⟨atI p.states (stN p.states m.src), m.mth, atI p.states (stN p.states m.dst)⟩], 4⟩ : Rd), (0 : Int)) = _
      rw [b1, b2]
    have hf := ((ptc_fine h).1 (mvW p.states m) (List.mem_append_right _ (List.mem_map.2 ⟨m, hmm, rfl⟩))).1
    have ih := ptcGo_moves h ms (mv ++ [m]) (i + 1) (by rw [e]; simp)
    rw [List.map_cons, List.cons_append]
    cases hq : ms.map (fun m => lnW (mvW p.states m)) ++ [lnW [bEnd], []] with
    | nil => simp at hq
    | cons y t => rw [ptcGo_step hf hst, ← hq, ih]
theorem ptcP_lines {p : Ptc} (h : ptcE p = 0) : ptcP ((ptcW p).map lnW ++ [[]]) = (p, 0, 0) := by
  have hv := ptcE_ok h
  have hi := ptcE_ids h
  have hf := (ptc_fine h).1
  unfold ptcP ptcW
  have e : ((hdW p.cls p.states p.start p.err ++ p.moves.map (mvW p.states) ++ [[bEnd]]).map lnW ++ [[]] : List (List UInt8)) = lnW [bPro, p.cls] :: lnW (bSts :: p.states) :: lnW [bSta, stN p.states p.start] :: lnW [bErr, stN p.states p.err] :: (p.moves.map (fun m => lnW (mvW p.states m)) ++ [lnW [bEnd], []]) := by
    unfold hdW
    simp [List.map_map]
  rw [e]
  have hf' : ∀ ws ∈ hdW p.cls p.states p.start p.err, Fine ws := fun ws hw => (hf ws (List.mem_append_left _ hw)).1
  rw [ptcGo_step (hf' _ (by simp [hdW])) (r' := ⟨p.cls, [], 0, 0, [], 1⟩) rfl]
  have s1 : stepR ⟨p.cls, [], 0, 0, [], 1⟩ (bSts :: p.states) = (⟨p.cls, p.states, 0, 0, [], 2⟩, 0) := by
    unfold stepR
    simp only
    rw [if_pos ⟨rfl, by have := List.length_pos_iff.2 hi.l0; simp; omega⟩]
    rfl
  rw [ptcGo_step (hf' _ (by simp [hdW])) s1]
  have b1 := stN_idx hi hv.start
  have b2 := stN_idx hi hv.err
  have s2 : stepR ⟨p.cls, p.states, 0, 0, [], 2⟩ [bSta, stN p.states p.start] = (⟨p.cls, p.states, p.start, 0, [], 3⟩, 0) := by
    unfold stepR
    simp only
    rw [if_pos ⟨rfl, rfl⟩]
    show (if 0 ≤ atI p.states (stN p.states p.start) then ((⟨p.cls, p.states, atI p.states (stN p.states p.start), 0, [], 3⟩ : Rd), (0 : Int)) else _) = _
    rw [b1, if_pos hv.start.1]
  have s3 : stepR ⟨p.cls, p.states, p.start, 0, [], 3⟩ [bErr, stN p.states p.err] = (⟨p.cls, p.states, p.start, p.err, [], 4⟩, 0) := by
    unfold stepR
    simp only
    rw [if_pos ⟨rfl, rfl⟩]
    show (if 0 ≤ atI p.states (stN p.states p.err) then ((⟨p.cls, p.states, p.start, atI p.states (stN p.states p.err), [], 4⟩ : Rd), (0 : Int)) else _) = _
    rw [b2, if_pos hv.err.1]
  rw [ptcGo_step (hf' _ (by simp [hdW])) s2]
  cases hq : p.moves.map (fun m => lnW (mvW p.states m)) ++ [lnW [bEnd], []] with
  | nil => simp at hq
  | cons y t => rw [ptcGo_step (hf' _ (by simp [hdW])) s3, ← hq, ptcGo_moves h p.moves [] 5 (by simp)]
end Go.Proofs.YthabojhnliomnaaGreatDoor

namespace Go.Proofs.YthabojhnliomnaaGreatDoor
open Go.RowKit
set_option linter.unusedVariables false

/-! ### A rule's line is the line that was read -/
theorem rootP_back {l : List UInt8} {r n : Int} (h : rootP l = (r, n, true)) (hr : r = 1 ∨ r = 2) (h0 : 0 ≤ n) (h6 : n ≤ 6) : (if r = 1 then wArg ++ Lib.decDigits n.toNat else wRes) = l := by
  unfold rootP at h
  split at h
  · rename_i e
    obtain ⟨rfl, _⟩ := Prod.mk.inj h
    rw [if_neg (by omega), e]
  · split at h
    · cases (Prod.mk.inj (Prod.mk.inj h).2).2
    rename_i hb
    obtain ⟨h1, h2⟩ := Prod.mk.inj h
    obtain ⟨h2, _⟩ := Prod.mk.inj h2
    have hb' : badD (preR l).2 = false ∧ (preR l).2.all digU = true := by
      cases a : badD (preR l).2 <;> cases b : (preR l).2.all digU <;> simp [a, b] at hb ⊢
    unfold preR at h1 h2 hb'
    by_cases hp : Lib.hasPrefix l pArg = true
    · rw [if_pos hp] at h1 h2 hb'
      rw [if_pos h1.symm]
      unfold Lib.hasPrefix at hp
      obtain ⟨t, rfl⟩ := List.isPrefixOf_iff_prefix.1 hp
      have e3 : (pArg ++ t).drop 3 = t := rfl
      simp only [e3] at h2 hb'
      have hw : wArg = pArg := rfl
      rw [hw]
      congr 1
      match t, hb', h2 with
      | [], hb', _ => simp [badD] at hb'
      | [c], hb', h2 =>
        simp [digU] at hb'
        have hc : n = (c.toNat : Int) - 48 := by rw [← h2]; simp [numG]
        obtain ⟨m, hm⟩ : ∃ m : Nat, n = m := ⟨n.toNat, by omega⟩
        have hm6 : m ≤ 6 := by omega
        rw [hm, Int.toNat_natCast, digit_small hm6]
        congr 1
        apply UInt8.toNat_inj.1
        rw [UInt8.toNat_add, UInt8.toNat_ofNat']
        have : c.toNat = m + 48 := by omega
        rw [this]
        show (48 + m % 256) % 256 = m + 48
        omega
      | c :: d :: u, hb', h2 =>
        exfalso
        have hg : ∀ (u : List UInt8) (k : Int), u.all digU = true → 1 ≤ k → 1 ≤ numG u k := by
          intro u
          induction u with
          | nil => intro k _ hk; exact hk
          | cons x u ih =>
            intro k hu hk
            simp only [List.all_cons, Bool.and_eq_true] at hu
            have hx := hu.1
            simp [digU] at hx
            unfold numG
            exact ih _ hu.2 (by omega)
        have hg2 : ∀ (u : List UInt8) (k : Int), u.all digU = true → 10 ≤ k → 10 ≤ numG u k := by
          intro u
          induction u with
          | nil => intro k _ hk; exact hk
          | cons x u ih =>
            intro k hu hk
            simp only [List.all_cons, Bool.and_eq_true] at hu
            have hx := hu.1
            simp [digU] at hx
            unfold numG
            exact ih _ hu.2 (by omega)
        obtain ⟨hb1, hb2⟩ := hb'
        simp only [List.all_cons, Bool.and_eq_true] at hb2
        obtain ⟨d1, d2, d3⟩ := hb2
        have hc48 : c ≠ 48 := by
          intro e
          subst e
          simp [badD] at hb1
        have hcn : c.toNat ≠ 48 := fun e => hc48 (UInt8.toNat_inj.1 e)
        simp [digU] at d1 d2
        have := hg2 u (10 * (10 * 0 + ((c.toNat : Int) - 48)) + ((d.toNat : Int) - 48)) d3 (by omega)
        have e4 : numG (c :: d :: u) 0 = numG u (10 * (10 * 0 + ((c.toNat : Int) - 48)) + ((d.toNat : Int) - 48)) := rfl
        rw [e4] at h2
        omega
    · rw [if_neg hp] at h1 h2 hb'
      exfalso
      by_cases hp2 : Lib.hasPrefix l pVar = true
      · rw [if_pos hp2] at h1
        simp at h1
        omega
      · rw [if_neg hp2] at h1
        by_cases hp3 : Lib.hasPrefix l pSite = true
        · rw [if_pos hp3] at h1
          simp at h1
          omega
        · rw [if_neg hp3] at h1
          simp at h1
          omega
theorem star_back (l : List UInt8) : acpBody l ++ (if acpStar l then [42] else []) = l := by
  unfold acpBody acpStar Lib.trimSuffix
  split
  · rename_i h
    unfold Lib.hasSuffix at h
    rw [List.isSuffixOf_iff_suffix] at h
    obtain ⟨t, rfl⟩ := h
    simp
  · simp
theorem acpP_back {l : List UInt8} {x : Acp} (h : acpP l = (x, 0)) (hv : AcpV x) : acpT x = l := by
  unfold acpP at h
  split at h
  · cases (Prod.mk.inj h).2
  rename_i hr
  split at h
  · cases (Prod.mk.inj h).2
  split at h
  · rename_i hn
    exact absurd (Prod.mk.inj h).2 hn
  obtain ⟨rfl, _⟩ := Prod.mk.inj h
  have hr' : (acpRt l).2.2 = true := by simpa using hr
  have h1 := rootP_back (l := toL ((acpWs l).headD ⟨#[]⟩)) (r := (acpRt l).1) (n := (acpRt l).2.1) (by rw [← hr']; rfl) hv.root hv.n0 hv.n6
  unfold acpT
  have e1 : rootT (acpOf l) = toL ((acpWs l).headD ⟨#[]⟩) := h1
  rw [e1]
  have e2 : toL ((acpWs l).headD ⟨#[]⟩) ++ fldT (acpWs l).tail = acpBody l := by
    have e3 : acpWs l = (acpWs l).headD ⟨#[]⟩ :: (acpWs l).tail := by
      have := wds_pos 46 (bsOf (acpBody l))
      unfold acpWs
      cases hq : wds 46 (bsOf (acpBody l)) with
      | nil => rw [hq] at this; simp at this
      | cons a b => rfl
    have e4 : glue 46 ((acpWs l).map toL) = acpBody l := by
      unfold acpWs
      rw [wds_toL, glue_spl, toL_bsOf]
    rw [e3, List.map_cons, glue_flat, List.flatMap_map] at e4
    exact e4
  show toL ((acpWs l).headD ⟨#[]⟩) ++ fldT (acpWs l).tail ++ (if acpStar l then [42] else []) = l
  rw [e2, star_back]
theorem ruleP_back {x : List UInt8} {r : Rul} (h : ruleP (bsOf x) = (r, 0)) (hv : rulE r = 0) : ruleLn r = x := by
  unfold ruleP at h
  split at h
  · cases (Prod.mk.inj h).2
  split at h
  · rename_i x0 x1 x2 x3 x4 hw
    unfold ruleW at h
    split at h
    · cases (Prod.mk.inj h).2
    rename_i hk
    split at h
    · rename_i hn
      exact absurd (Prod.mk.inj h).2 hn
    rename_i h0
    obtain ⟨rfl, _⟩ := Prod.mk.inj h
    have h0' : (acpP (toL x3)).2 = 0 := by simpa using h0
    have ha := acpP_back (l := toL x3) (x := (acpP (toL x3)).1) (by rw [← h0']) (rulE_ok hv).pth
    have hkw : toL (wordS (kindP x0)) = toL x0 := by
      unfold kindP at hk ⊢
      split
      · rename_i e; rw [e]; rfl
      split
      · rename_i e; rw [e]; rfl
      split
      · rename_i e; rw [e]; rfl
      · rename_i a b c
        rw [if_neg a, if_neg b, if_neg c] at hk
        exact absurd rfl hk
    have hx := lnW_wds x
    rw [hw] at hx
    rw [← hx]
    unfold ruleLn lnW
    simp only [List.map_cons, List.map_nil, glue_flat, List.flatMap_cons, List.flatMap_nil]
    rw [hkw, ha]
    simp
  · cases (Prod.mk.inj h).2
/-! ### The parts of a policy -/
def ptcLn (p : Ptc) : List (List UInt8) := (ptcW p).map lnW
theorem ptcLn_cons (p : Ptc) : ∃ t, ptcLn p = lnW [bPro, p.cls] :: t := ⟨_, rfl⟩
theorem partP_ptc {p : Ptc} (h : ptcE p = 0) {r : List (List UInt8)} (hr : r ≠ []) : partP (ptcLn p ++ r) = (ptcLn p ++ [[]], (ptcLn p).length, r) := by
  have hf := ptc_fine h
  obtain ⟨A, hA, hE⟩ : ∃ A : List (List UInt8), (∀ x ∈ A, x ≠ wE) ∧ ptcLn p = A ++ [wE] := ⟨(hdW p.cls p.states p.start p.err ++ p.moves.map (mvW p.states)).map lnW, fun x hx => by
    obtain ⟨ws, hw, rfl⟩ := List.mem_map.1 hx
    exact lnW_end (hf.1 ws hw).1 (hf.1 ws hw).2, by unfold ptcLn ptcW; rw [List.map_append]; rfl⟩
  have hd : (ptcLn p ++ r).dropLast = A ++ wE :: r.dropLast := by
    rw [hE, List.append_assoc, List.dropLast_append_of_ne_nil (by simp)]
    cases r with
    | nil => exact absurd rfl hr
    | cons a b => rfl
  have he : endAt (ptcLn p ++ r) = some A.length := by
    unfold endAt
    rw [hd, List.findIdx?_eq_some_iff_getElem]
    refine ⟨by simp, by simp, fun j hj => ?_⟩
    rw [List.getElem_append_left hj]
    have := hA A[j] (List.getElem_mem hj)
    simpa using this
  unfold partP
  rw [he]
  have hl : A.length + 1 = (ptcLn p).length := by rw [hE]; simp
  show ((ptcLn p ++ r).take (A.length + 1) ++ [[]], A.length + 1, (ptcLn p ++ r).drop (A.length + 1)) = _
  rw [hl, List.take_left', List.drop_left'] <;> rfl
theorem begP_ptc (c : ByteArray) : begP (lnW [bPro, c]) = true := by
  have e : lnW [bPro, c] = wPro ++ 32 :: toL c := rfl
  unfold begP
  rw [e, spl_mid (by decide)]
  rfl
theorem ph2_lines : ∀ (qs : List Ptc) (f i : Nat) (rs : List Rul) (ps : List Ptc), qs.length < f → (∀ q ∈ qs, ptcE q = 0) → (polE ⟨rs, ps ++ qs⟩).2 = 0 → ph2 f i rs ps (qs.flatMap ptcLn ++ [[]]) = (⟨rs, ps ++ qs⟩, 0, 0)
  | [], f + 1, i, rs, ps, _, _, hp => by
    rw [List.append_nil] at hp
    show ph2 (f + 1) i rs ps [[]] = _
    unfold ph2
    simp only
    rw [if_neg (by simp), if_neg (by rw [hp]; simp), List.append_nil]
  | q :: qs, f + 1, i, rs, ps, hf, hq, hp => by
    have h0 := hq q (by simp)
    have hne : qs.flatMap ptcLn ++ [[]] ≠ [] := by simp
    have hpp := partP_ptc h0 hne
    have ih := ph2_lines qs f (i + (ptcLn q).length) rs (ps ++ [q]) (by simp at hf; omega) (fun x hx => hq x (by simp [hx])) (by rw [List.append_assoc]; exact hp)
    rw [List.append_assoc] at ih
    rw [List.flatMap_cons, List.append_assoc]
    obtain ⟨t, ht⟩ := ptcLn_cons q
    cases hc : t ++ (qs.flatMap ptcLn ++ [[]]) with
    | nil => simp at hc
    | cons y u =>
      have hl : ptcLn q ++ (qs.flatMap ptcLn ++ [[]]) = lnW [bPro, q.cls] :: y :: u := by rw [ht, List.cons_append, hc]
      rw [hl] at hpp ⊢
      unfold ph2
      simp only
      have hpl : ptcP (ptcLn q ++ [[]]) = (q, 0, 0) := ptcP_lines h0
      rw [if_neg (by rw [begP_ptc]; simp), hpp]
      simp only
      rw [hpl, if_neg (by simp)]
      exact ih
theorem ph1_lines {qs : List Ptc} : ∀ (xs : List Rul) (i : Nat) (rs : List Rul), (∀ x ∈ xs, rulE x = 0) → (∀ q ∈ qs, ptcE q = 0) → (polE ⟨rs ++ xs, qs⟩).2 = 0 → ph1 i rs (xs.map ruleLn ++ (qs.flatMap ptcLn ++ [[]])) = (⟨rs ++ xs, qs⟩, 0, 0)
  | [], i, rs, _, hq, hp => by
    rw [List.append_nil] at hp ⊢
    rw [List.map_nil, List.nil_append]
    have h2 := fun f h => ph2_lines qs f i rs [] h hq (by rw [List.nil_append]; exact hp)
    rw [List.nil_append] at h2
    cases qs with
    | nil => exact h2 1 (by simp)
    | cons q qs =>
      obtain ⟨t, ht⟩ := ptcLn_cons q
      have hlen : ∀ l : List Ptc, l.length ≤ (l.flatMap ptcLn).length := by
        intro l
        induction l with
        | nil => simp
        | cons a b ihl =>
          obtain ⟨u, hu⟩ := ptcLn_cons a
          rw [List.flatMap_cons, hu, List.length_append, List.length_cons, List.length_cons]
          omega
      have h3 := h2 (((q :: qs).flatMap ptcLn) ++ [[]]).length (by have := hlen (q :: qs); rw [List.length_append]; simp only [List.length_singleton]; omega)
      cases hc : t ++ (qs.flatMap ptcLn ++ [[]]) with
      | nil => simp at hc
      | cons y u =>
        have hl : (q :: qs).flatMap ptcLn ++ [[]] = lnW [bPro, q.cls] :: y :: u := by rw [List.flatMap_cons, List.append_assoc, ht, List.cons_append, hc]
        rw [hl] at h3 ⊢
        unfold ph1
        rw [if_pos (begP_ptc _)]
        exact h3
  | x :: xs, i, rs, hx, hq, hp => by
    have h0 := hx x (by simp)
    have ih := ph1_lines xs (i + 1) (rs ++ [x]) (fun y hy => hx y (by simp [hy])) hq (by rw [List.append_assoc]; exact hp)
    rw [List.append_assoc] at ih
    rw [List.map_cons, List.cons_append]
    cases hc : xs.map ruleLn ++ (qs.flatMap ptcLn ++ [[]]) with
    | nil => simp at hc
    | cons y u =>
      rw [hc] at ih
      unfold ph1
      rw [if_neg (by rw [begP_ruleLn h0]; simp), ruleP_ruleLn h0, if_neg (by simp)]
      exact ih
theorem polT_lines (p : Pol) : polT p = lnT (p.rules.map ruleLn ++ p.protocols.flatMap ptcLn) := by
  unfold polT lnT
  rw [List.flatMap_append]
  congr 1
  · rw [List.flatMap_map]
    rfl
  · induction p.protocols with
    | nil => rfl
    | cons q qs ih =>
      rw [List.flatMap_cons, List.flatMap_cons, List.flatMap_append, ← ih, ptcT_lines]
      rfl
theorem polE_all {p : Pol} (h : (polE p).2 = 0) : (∀ x ∈ p.rules, rulE x = 0) ∧ (∀ q ∈ p.protocols, ptcE q = 0) := by
  unfold polE at h
  by_cases hl : 64 < p.rules.length ∨ 64 < p.protocols.length
  · rw [if_pos hl] at h; exact absurd h (by decide)
  rw [if_neg hl] at h
  cases h1 : firstP (rlF p.rules) p.rules.length with
  | some k =>
    rw [h1] at h
    have := List.find?_some h1
    simp at this
    exact absurd h this
  | none =>
    rw [h1] at h
    cases h2 : firstP (ptF p.protocols) p.protocols.length with
    | some k =>
      rw [h2] at h
      have := List.find?_some h2
      simp at this
      exact absurd h this
    | none =>
      refine ⟨fun x hx => ?_, fun x hx => ?_⟩
      · obtain ⟨i, hi, rfl⟩ := List.getElem_of_mem hx
        have h3 := List.find?_eq_none.1 h1 i (by simpa using hi)
        rw [rlF_at hi] at h3
        simpa using h3
      · obtain ⟨i, hi, rfl⟩ := List.getElem_of_mem hx
        have h3 := List.find?_eq_none.1 h2 i (by simpa using hi)
        rw [ptF_at hi] at h3
        by_cases e : ptcE p.protocols[i] ≠ 0
        · rw [if_pos e] at h3; simp at h3; exact absurd h3 e
        · simpa using e
/-- Reading undoes writing. -/
theorem polP_text {p : Pol} (h : (textR p).2 = 0) : polP (textR p).1 = (p, 0, 0) := by
  unfold textR at *
  split at h
  · rename_i hn; exact absurd h hn
  rename_i he
  rw [if_neg he]
  split at h
  · cases h
  rename_i hs
  rw [if_neg hs]
  have he' : (polE p).2 = 0 := by simpa using he
  obtain ⟨a1, a2⟩ := polE_all he'
  unfold polP
  rw [bsOf_size, if_neg hs, toL_bsOf, polT_lines, spl_lnT, List.append_assoc]
  · exact ph1_lines p.rules 1 [] a1 a2 he'
  · intro x hx
    rcases List.mem_append.1 hx with hx | hx
    · obtain ⟨r, hr, rfl⟩ := List.mem_map.1 hx
      have hi := rulE_ids (a1 r hr)
      have hv := rulE_ok (a1 r hr)
      unfold ruleLn
      simp only [List.mem_append, List.mem_singleton, not_or]
      refine ⟨⟨⟨⟨⟨⟨⟨⟨?_, by decide⟩, ident_free hi.c p10⟩, by decide⟩, ident_free hi.m p10⟩, by decide⟩, acpT_free hv.pth hi.f (Or.inr rfl)⟩, by decide⟩, ident_free hi.t p10⟩
      rcases hv.kind with e | e | e <;> rw [e] <;> decide
    · obtain ⟨q, hq, hx⟩ := List.mem_flatMap.1 hx
      obtain ⟨ws, hw, rfl⟩ := List.mem_map.1 hx
      have hf := ptc_fine (a2 q hq)
      unfold ptcW at hw
      rcases List.mem_append.1 hw with hw | hw
      · exact lnW_no10 (hf.1 ws hw).1
      · simp at hw; subst hw; exact lnW_no10 hf.2
theorem ph2_back : ∀ (f i : Nat) (rs : List Rul) (ps : List Ptc) (ls : List (List UInt8)) (q : Pol) (a : Int), ph2 f i rs ps ls = (q, a, 0) → ∃ qs, q = ⟨rs, ps ++ qs⟩ ∧ ls = qs.flatMap ptcLn ++ [[]] ∧ (polE q).2 = 0
  | 0, i, rs, ps, ls, q, a, h => by simp [ph2] at h
  | f + 1, i, rs, ps, [], q, a, h => by simp [ph2] at h
  | f + 1, i, rs, ps, [x], q, a, h => by
    unfold ph2 at h
    simp only at h
    split at h
    · simp at h
    rename_i hx
    split at h
    · rename_i hn
      exact absurd (Prod.mk.inj (Prod.mk.inj h).2).2 hn
    rename_i he
    obtain ⟨rfl, _⟩ := Prod.mk.inj h
    exact ⟨[], by simp, by simpa using hx, by simpa using he⟩
  | f + 1, i, rs, ps, x :: y :: t, q, a, h => by
    unfold ph2 at h
    simp only at h
    split at h
    · simp at h
    split at h
    · rename_i hn
      exact absurd (Prod.mk.inj (Prod.mk.inj h).2).2 hn
    rename_i h0
    have h0' : (ptcP (partP (x :: y :: t)).1).2.2 = 0 := by simpa using h0
    obtain ⟨qs, k1, k2, k3⟩ := ph2_back f _ rs _ _ q a h
    obtain ⟨m1, m2⟩ := ptcP_back (ls := (partP (x :: y :: t)).1) (q := (ptcP (partP (x :: y :: t)).1).1) (a := (ptcP (partP (x :: y :: t)).1).2.1) (by rw [← h0'])
    refine ⟨(ptcP (partP (x :: y :: t)).1).1 :: qs, by rw [k1]; simp, ?_, k3⟩
    rw [List.flatMap_cons, List.append_assoc, ← k2]
    generalize hQ : (ptcP (partP (x :: y :: t)).1).1 = Q at m1
    unfold partP at m1 ⊢
    cases he : endAt (x :: y :: t) with
    | some j =>
      rw [he] at m1
      simp only at m1 ⊢
      have := List.append_inj_left' m1 rfl
      show _ = ptcLn Q ++ _
      unfold ptcLn
      rw [← this, List.take_append_drop]
    | none =>
      rw [he] at m1
      exact m1
theorem ph1_back : ∀ (ls : List (List UInt8)) (i : Nat) (rs : List Rul) (q : Pol) (a : Int), ph1 i rs ls = (q, a, 0) → ∃ xs, ∃ qs, q = ⟨rs ++ xs, qs⟩ ∧ ls = xs.map ruleLn ++ (qs.flatMap ptcLn ++ [[]]) ∧ (polE q).2 = 0
  | [], i, rs, q, a, h => by simp [ph1] at h
  | [x], i, rs, q, a, h => by
    unfold ph1 at h
    obtain ⟨qs, k1, k2, k3⟩ := ph2_back _ _ _ _ _ _ _ h
    exact ⟨[], qs, by simpa using k1, by simpa using k2, k3⟩
  | x :: y :: t, i, rs, q, a, h => by
    unfold ph1 at h
    split at h
    · obtain ⟨qs, k1, k2, k3⟩ := ph2_back _ _ _ _ _ _ _ h
      exact ⟨[], qs, by simpa using k1, by simpa using k2, k3⟩
    · split at h
      · rename_i hn
        exact absurd (Prod.mk.inj (Prod.mk.inj h).2).2 hn
      rename_i h0
      have h0' : (ruleP (bsOf x)).2 = 0 := by simpa using h0
      obtain ⟨xs, qs, k1, k2, k3⟩ := ph1_back (y :: t) _ _ q a h
      have hr : rulE (ruleP (bsOf x)).1 = 0 := (polE_all k3).1 _ (by rw [k1]; simp)
      refine ⟨(ruleP (bsOf x)).1 :: xs, qs, by rw [k1]; simp, ?_, k3⟩
      rw [List.map_cons, List.cons_append, ← k2, ruleP_back (x := x) (r := (ruleP (bsOf x)).1) (by rw [← h0']) hr]
/-- Writing undoes reading. -/
theorem text_polP {s : ByteArray} {q : Pol} {a : Int} (h : polP s = (q, a, 0)) : textR q = (s, 0) := by
  unfold polP at h
  split at h
  · simp at h
  rename_i hs
  obtain ⟨xs, qs, k1, k2, k3⟩ := ph1_back _ _ _ _ _ h
  have hT : polT q = toL s := by
    rw [polT_lines, k1]
    show lnT (([] ++ xs).map ruleLn ++ qs.flatMap ptcLn) = _
    rw [List.nil_append]
    have h1 : glue 10 ((xs.map ruleLn ++ qs.flatMap ptcLn) ++ [[]]) = toL s := by
      rw [List.append_assoc, ← k2, glue_spl]
    rw [glue_app (by simp)] at h1
    simpa [glue] using h1
  unfold textR
  rw [if_neg (by rw [k3]; simp), hT, toL_len, if_neg hs]
  show (bsOf (toL s), (0 : Int)) = _
  have : bsOf (toL s) = s := mk_toL s
  rw [this]
theorem polP_cases (s : ByteArray) : (polP s).2.2 = 0 ∨ ((polP s).2.2 ≠ 0 ∧ (polP s).1 = zPol) := by
  have h2 : ∀ (f i : Nat) (rs : List Rul) (ps : List Ptc) (ls : List (List UInt8)), (ph2 f i rs ps ls).2.2 = 0 ∨ ((ph2 f i rs ps ls).2.2 ≠ 0 ∧ (ph2 f i rs ps ls).1 = zPol) := by
    intro f
    induction f with
    | zero => intro i rs ps ls; right; exact ⟨by simp [ph2], by simp [ph2]⟩
    | succ f ih =>
      intro i rs ps ls
      match ls with
      | [] => right; exact ⟨by simp [ph2], by simp [ph2]⟩
      | [x] =>
        unfold ph2
        simp only
        split
        · right; exact ⟨by simp, rfl⟩
        split
        · rename_i hn; right; exact ⟨hn, rfl⟩
        · left; rfl
      | x :: y :: t =>
        unfold ph2
        simp only
        split
        · right; exact ⟨by simp, rfl⟩
        split
        · rename_i hn; right; exact ⟨hn, rfl⟩
        · exact ih _ _ _ _
  have h1 : ∀ (ls : List (List UInt8)) (i : Nat) (rs : List Rul), (ph1 i rs ls).2.2 = 0 ∨ ((ph1 i rs ls).2.2 ≠ 0 ∧ (ph1 i rs ls).1 = zPol) := by
    intro ls
    induction ls with
    | nil => intro i rs; right; exact ⟨by simp [ph1], by simp [ph1]⟩
    | cons x t ih =>
      intro i rs
      match t with
      | [] => unfold ph1; exact h2 _ _ _ _ _
      | y :: t =>
        unfold ph1
        split
        · exact h2 _ _ _ _ _
        split
        · rename_i hn; right; exact ⟨hn, rfl⟩
        · exact ih _ _
  unfold polP
  split
  · right; exact ⟨by simp, rfl⟩
  · exact h1 _ _ _
end Go.Proofs.YthabojhnliomnaaGreatDoor

namespace Go.Proofs.YthabojhnliomnaaGreatDoor
open Go.RowKit
set_option linter.unusedVariables false

theorem first_same (l : List ByteArray) (A B : Option Addr) (c d : Nat) (w : World) (hl : l.length ≤ 9223372036854775807) (ha : Sl Lay.str w A l) (hb : Sl Lay.str w B l) :
    Calls Tryz.prog 101 #[.slice A l.length c, .slice B l.length d] w fun e w' => e = .returned (.bool true) ∧ Below w.heap.size w w' := by
  go_enter Tryz.func101, Tryz.ntmps101
  go_wp2_with fail
  go_loopw [5] (fun i wr => ∃ k : Nat, k ≤ l.length ∧ i = .int .i64 k ∧ Below w.heap.size w wr) (fun i _ => l.length - (intOf i).toNat)
  case atStart => exact ⟨0, Nat.zero_le _, rfl, Below.refl _ _⟩
  case round =>
    obtain ⟨k, hk, rfl, hbw⟩ := hrel
    by_cases hlt : k < l.length
    · obtain ⟨b, o, rfl, h1, d0⟩ := (ha.mono hbw).str_at hlt
      obtain ⟨b', o', rfl, h2, e0⟩ := (hb.mono hbw).str_at hlt
      have t1 : (l[k].toList == l[k].toList) = true := by simp
      go_wp2_with fail
      refine wp_region_later (by kernel_rfl) (by kernel_rfl) ?_
      repeat (go_big_quiet_step (fail))
      refine wpQuiet_nil ?_
      rintro _ ⟨x, rfl⟩
      go_wp2_with fail
      go_roundw
      case rel => exact ⟨k + 1, by omega, by go_num, below_step hbw x.h⟩
      case measure => simp [intOf]; omega
    · go_wp2_with fail
      go_ret
      exact ⟨rfl, (by repeat (first | assumption | exact Below.refl _ _ | apply bw_alloc | apply bw_drew | apply bw_drewN | apply bw_later | apply bw_step))⟩
theorem acpSame (x : Acp) (A B : Option Addr) (c d : Nat) (w : World) (hl : x.fields.length ≤ 9223372036854775807) (ha : Sl Lay.str w A x.fields) (hb : Sl Lay.str w B x.fields) :
    Calls Tryz.prog 53 #[.agg #[.int .i64 x.root, .int .i64 x.n, .slice A x.fields.length c, .bool x.star], .agg #[.int .i64 x.root, .int .i64 x.n, .slice B x.fields.length d, .bool x.star]] w fun e w' => e = .returned (.bool true) ∧ Below w.heap.size w w' := by
  have HF := Lib.hid (fun W h => first_same x.fields A B c d W hl (ha.mono h) (hb.mono h))
  have t1 : (x.root == x.root) = true := by simp
  have t2 : (x.n == x.n) = true := by simp
  have t3 : (x.star == x.star) = true := by simp
  go_enter Tryz.func53, Tryz.ntmps53
  go_wp2_with fail
  refine (HF.out _ (by exact (by repeat (first | assumption | exact Below.refl _ _ | apply bw_alloc | apply bw_drew | apply bw_drewN | apply bw_later | apply bw_step)))).mono ?_
  rintro e w1 ⟨rfl, hb1⟩
  go_wp2_with fail
  go_ret
  exact ⟨rfl, below_step (by exact (by repeat (first | assumption | exact Below.refl _ _ | apply bw_alloc | apply bw_drew | apply bw_drewN | apply bw_later | apply bw_step))) hb1⟩
theorem movGuard : Tryz.prog.eqGuardType Tryz.prog.depth 103 = false := by kernel_rfl
theorem mov_same (a b : Int) (s : ByteArray) (w : World) : (binOp .neq 103 (.agg #[.int .i64 a, .string s, .int .i64 b]) (.agg #[.int .i64 a, .string s, .int .i64 b])).run Tryz.prog w = .ok (.bool false) w := by
  simp [go_sem]
theorem ptcSame (x : Ptc) (A B A' B' : Option Addr) (c d c' d' : Nat) (w : World) (hl : x.states.length ≤ 9223372036854775807) (hm : x.moves.length ≤ 9223372036854775807) (ha : Sl Lay.str w A x.states) (hb : Sl Lay.str w B x.states) (ha' : Sl Lay.mov w A' x.moves) (hb' : Sl Lay.mov w B' x.moves) :
    Calls Tryz.prog 54 #[.agg #[.string x.cls, .slice A x.states.length c, .int .i64 x.start, .int .i64 x.err, .slice A' x.moves.length c'], .agg #[.string x.cls, .slice B x.states.length d, .int .i64 x.start, .int .i64 x.err, .slice B' x.moves.length d']] w fun e w' => e = .returned (.bool true) ∧ Below w.heap.size w w' := by
  obtain ⟨cl, st, sa, er, mv⟩ := x
  simp only at hl hm ha hb ha' hb' ⊢
  have bx0 := Box.new w [.string cl, .slice A st.length c, .int .i64 sa, .int .i64 er, .slice A' mv.length c'] 63
  have by1 : Box ((w.alloc (.cells #[.string cl, .slice A st.length c, .int .i64 sa, .int .i64 er, .slice A' mv.length c'] 63)).alloc (.cells #[.string cl, .slice B st.length d, .int .i64 sa, .int .i64 er, .slice B' mv.length d'] 63)) (w.heap.size + 1) [.string cl, .slice B st.length d, .int .i64 sa, .int .i64 er, .slice B' mv.length d'] 63 := (by repeat (first | (refine Box.at ?_; (simp; done)) | apply Box.drew | apply Box.alloc | assumption))
  have hb0 : Below w.heap.size w ((w.alloc (.cells #[.string cl, .slice A st.length c, .int .i64 sa, .int .i64 er, .slice A' mv.length c'] 63)).alloc (.cells #[.string cl, .slice B st.length d, .int .i64 sa, .int .i64 er, .slice B' mv.length d'] 63)) := (by repeat (first | assumption | exact Below.refl _ _ | apply bw_alloc | apply bw_drew | apply bw_drewN | apply bw_later | apply bw_step))
  have bx1 := bx0.alloc (.cells #[.string cl, .slice B st.length d, .int .i64 sa, .int .i64 er, .slice B' mv.length d'] 63)
  have t1 : (cl.toList == cl.toList) = true := by simp
  have t2 : (sa == sa) = true := by simp
  have t3 : (er == er) = true := by simp
  go_enter Tryz.func54, Tryz.ntmps54
  go_wp2_with fail
  go_loopw [5] (fun i wr => ∃ k : Nat, k ≤ st.length ∧ i = .int .i64 k ∧ Box wr w.heap.size [.string cl, .slice A st.length c, .int .i64 sa, .int .i64 er, .slice A' mv.length c'] 63 ∧ Box wr (w.heap.size + 1) [.string cl, .slice B st.length d, .int .i64 sa, .int .i64 er, .slice B' mv.length d'] 63 ∧ Below w.heap.size w wr) (fun i _ => st.length - (intOf i).toNat)
  case atStart => exact ⟨0, Nat.zero_le _, rfl, bx1, by1, hb0⟩
  case round =>
    clear bx0 bx1 by1 hb0
    obtain ⟨k, hk, rfl, hbx, hby, hbw⟩ := hrel
    have p1 := hbx.cell 1 rfl
    have q1 := hby.cell 1 rfl
    have pl := hbx.lt
    have ql := hby.lt
    by_cases hlt : k < st.length
    · obtain ⟨b, o, rfl, h1, d0⟩ := (ha.mono hbw).str_at hlt
      obtain ⟨b', o', rfl, h2, e0⟩ := (hb.mono hbw).str_at hlt
      have t4 : (st[k].toList == st[k].toList) = true := by simp
      go_wp2_with fail
      refine wp_region_later (by kernel_rfl) (by kernel_rfl) ?_
      repeat (go_big_quiet_step (fail))
      refine wpQuiet_nil ?_
      rintro _ ⟨x, rfl⟩
      go_wp2_with fail
      go_roundw
      case rel => exact ⟨k + 1, by omega, by go_num, hbx.mono x.h, hby.mono x.h, below_step hbw x.h⟩
      case measure => simp [intOf]; omega
    · go_wp2_with fail
      clear p1 q1 pl ql hk hlt
      obtain ⟨wo, rfl⟩ : ∃ wo : World, wo = wr := ⟨_, rfl⟩
      go_loopw [6] (fun i wr => ∃ k : Nat, k ≤ mv.length ∧ i = .int .i64 k ∧ Box wr w.heap.size [.string cl, .slice A st.length c, .int .i64 sa, .int .i64 er, .slice A' mv.length c'] 63 ∧ Box wr (w.heap.size + 1) [.string cl, .slice B st.length d, .int .i64 sa, .int .i64 er, .slice B' mv.length d'] 63 ∧ Below w.heap.size w wr) (fun i _ => mv.length - (intOf i).toNat)
      case atStart => exact ⟨0, Nat.zero_le _, rfl, hbx, hby, hbw⟩
      case round =>
        clear hbx hby hbw
        obtain ⟨k, hk, rfl, hbx, hby, hbw⟩ := hrel
        have p4 := hbx.cell 4 rfl
        have q4 := hby.cell 4 rfl
        have pl := hbx.lt
        have ql := hby.lt
        by_cases hlt : k < mv.length
        · obtain ⟨b, o, rfl, h1, d0, d1, d2⟩ := (ha'.mono hbw).mov_at hlt
          obtain ⟨b', o', rfl, h2, e0, e1, e2⟩ := (hb'.mono hbw).mov_at hlt
          have hms := mov_same
          go_wp2_with fail
          refine wp_region_later (by kernel_rfl) (by kernel_rfl) ?_
          repeat (go_big_quiet_step (fail))
          refine wpQuiet_nil ?_
          rintro _ ⟨x, rfl⟩
          go_wp2_with fail
          go_roundw
          case rel => exact ⟨k + 1, by omega, by go_num, hbx.mono x.h, hby.mono x.h, below_step hbw x.h⟩
          case measure => simp [intOf]; omega
        · go_wp2_with fail
          go_ret
          exact ⟨rfl, hbw⟩
end Go.Proofs.YthabojhnliomnaaGreatDoor

namespace Go.Proofs.YthabojhnliomnaaGreatDoor
open Go.RowKit
set_option linter.unusedVariables false

theorem below_undrewS {w W : World} (h : Below w.heap.size w W) : Below w.drew.heap.size w.drew W := ⟨h.os, h.tape, h.output, h.size, h.block⟩
set_option maxRecDepth 100000 in
set_option maxHeartbeats 4000000 in
theorem polSame (p : Pol) (A B A2 B2 : Option Addr) (c d c2 d2 : Nat) (w : World) (hok : Hid (OkPol p)) (ha : Sl Lay.rul w A p.rules) (hb : Sl Lay.rul w B p.rules) (ha2 : Sl Lay.ptc w A2 p.protocols) (hb2 : Sl Lay.ptc w B2 p.protocols) :
    Calls Tryz.prog 17 #[.agg #[.slice A p.rules.length c, .slice A2 p.protocols.length c2], .agg #[.slice B p.rules.length d, .slice B2 p.protocols.length d2]] w fun e w' => e = .returned (.bool true) ∧ Below w.heap.size w w' := by
  have okr := Lib.hid hok.out.r
  have okp := Lib.hid hok.out.p
  have hlr : p.rules.length ≤ 9223372036854775807 := hok.out.rl
  have hlp : p.protocols.length ≤ 9223372036854775807 := hok.out.pl
  clear hok
  obtain ⟨rs, ps⟩ := p
  simp only at okr okp hlr hlp ha hb ha2 hb2 ⊢
  have bx1 : Box ((w.alloc (.cells #[.slice A rs.length c, .slice A2 ps.length c2] 25)).alloc (.cells #[.slice B rs.length d, .slice B2 ps.length d2] 25)) w.heap.size [.slice A rs.length c, .slice A2 ps.length c2] 25 := (Box.new _ _ _).alloc _
  have by1 : Box ((w.alloc (.cells #[.slice A rs.length c, .slice A2 ps.length c2] 25)).alloc (.cells #[.slice B rs.length d, .slice B2 ps.length d2] 25)) (w.heap.size + 1) [.slice B rs.length d, .slice B2 ps.length d2] 25 := Box.at (by simp)
  have hb0 : Below w.heap.size w ((w.alloc (.cells #[.slice A rs.length c, .slice A2 ps.length c2] 25)).alloc (.cells #[.slice B rs.length d, .slice B2 ps.length d2] 25)) := (by repeat (first | assumption | exact Below.refl _ _ | apply bw_alloc | apply bw_drew | apply bw_drewN | apply bw_later | apply bw_step))
  go_enter Tryz.func17, Tryz.ntmps17
  go_wp2_with fail
  go_loopw [5] (fun i wr => ∃ k : Nat, k ≤ rs.length ∧ i = .int .i64 k ∧ Box wr w.heap.size [.slice A rs.length c, .slice A2 ps.length c2] 25 ∧ Box wr (w.heap.size + 1) [.slice B rs.length d, .slice B2 ps.length d2] 25 ∧ Below w.heap.size w wr) (fun i _ => rs.length - (intOf i).toNat)
  case atStart => exact ⟨0, Nat.zero_le _, rfl, bx1, by1, hb0⟩
  case round =>
    clear bx1 by1 hb0
    obtain ⟨k, hk, rfl, hbx, hby, hbw⟩ := hrel
    have p0 := hbx.cell 0 rfl
    have q0 := hby.cell 0 rfl
    have pl := hbx.lt
    have ql := hby.lt
    by_cases hlt : k < rs.length
    · obtain ⟨b, o, A5, c5, rfl, h1, d0, d1, d2, d3, d4, d5, d6, d7, hc5, hs5⟩ := (ha.mono hbw).rul_at hlt
      obtain ⟨b', o', B5, e5, rfl, h2, e0, e1, e2, e3, e4, e5', e6, e7, hc6, hs6⟩ := (hb.mono hbw).rul_at hlt
      have hfl : rs[k].pth.fields.length ≤ 9223372036854775807 := (okr.out _ (List.getElem_mem hlt)).2.2.2.1
      go_upto_region 6 with fail
      go_cut [6, 7] (fun p5 p6 wx => ∃ g5 g6, p5 = .pointer (some ⟨g5, 0, none⟩) ∧ p6 = .pointer (some ⟨g6, 0, none⟩) ∧ Box wx g5 [.int .i64 rs[k].kind, .string rs[k].cls, .string rs[k].mth, .int .i64 rs[k].pth.root, .int .i64 rs[k].pth.n, .slice A5 rs[k].pth.fields.length c5, .bool rs[k].pth.star, .string rs[k].tag] 51 ∧ Box wx g6 [.int .i64 rs[k].kind, .string rs[k].cls, .string rs[k].mth, .int .i64 rs[k].pth.root, .int .i64 rs[k].pth.n, .slice B5 rs[k].pth.fields.length e5, .bool rs[k].pth.star, .string rs[k].tag] 51 ∧ Below wr.heap.size wr wx)
      case first =>
        refine wp_region_RZ 14 (by kernel_rfl) (by kernel_rfl) ?_
        refine RZ.chunk (f := 4) [0, 1, 2, 3, 4, 5, 6, 7, 8, 9] (by kernel_rfl) ?_
        ((simp only [pickOps, List.filterMap, List.getElem?_toArray, List.getElem?_cons_zero, List.getElem?_cons_succ]); (repeat (go_big_quiet_step (fail))); refine wpQuiet_nil ?_)
        refine RZ.both 10 11 rfl rfl (by kernel_rfl) (by omega) (by omega) ?_ ?_
        · intro K hK
          go_wp2_with fail
          refine hK _ _ (bw_alloc (Below.refl _ _)) ?_
          clear hK
          refine RZ.single 11 rfl (by kernel_rfl) (by omega) ?_
          intro K hK
          go_wp2_with fail
          refine hK _ _ (bw_alloc (bw_alloc (Below.refl _ _))) ?_
          clear hK
          generalize hW : World.drew (World.alloc (World.alloc _ _) _) = W2
          have hb2 : Below wr.heap.size wr W2 := by rw [← hW]; exact (by repeat (first | assumption | exact Below.refl _ _ | apply bw_alloc | apply bw_drew | apply bw_drewN | apply bw_later | apply bw_step))
          have b5 : Box W2 wr.heap.size [.int .i64 0, .string ⟨#[]⟩, .string ⟨#[]⟩, .int .i64 0, .int .i64 0, .slice none 0 0, .bool false, .string ⟨#[]⟩] 51 := by rw [← hW]; exact (by repeat (first | (refine Box.at ?_; (simp; done)) | apply Box.drew | apply Box.alloc | assumption))
          have b6 : Box W2 (wr.heap.size + 1) [.int .i64 0, .string ⟨#[]⟩, .string ⟨#[]⟩, .int .i64 0, .int .i64 0, .slice none 0 0, .bool false, .string ⟨#[]⟩] 51 := by rw [← hW]; exact (by repeat (first | (refine Box.at ?_; (simp; done)) | apply Box.drew | apply Box.alloc | assumption))
          clear hW
          have l5 := b5.lt
          have f5 := fun i => b5.free i
          have z0 := b5.cell 0 rfl
          have z1 := b5.cell 1 rfl
          have z2 := b5.cell 2 rfl
          have z3 := b5.cell 3 rfl
          have z4 := b5.cell 4 rfl
          have z5 := b5.cell 5 rfl
          have z6 := b5.cell 6 rfl
          have z7 := b5.cell 7 rfl
          obtain ⟨b5', hg5⟩ := b5.store8 (.int .i64 rs[k].kind) (.string rs[k].cls) (.string rs[k].mth) (.int .i64 rs[k].pth.root) (.int .i64 rs[k].pth.n) (.slice A5 rs[k].pth.fields.length c5) (.bool rs[k].pth.star) (.string rs[k].tag)
          have b6' := b6.grown hg5 (by simp)
          have hb3 := hb2.grown hg5 hb2.size (fun k hk => by injection hk with hk; omega)
          refine RZ.single 12 rfl (by kernel_rfl) (by omega) ?_
          intro K hK
          go_wp2_with fail
          refine hK _ _ (below_undrewS hb3) ?_
          clear hK
          generalize World.setCell (World.setCell (World.setCell _ _ _) _ _) _ _ = W3 at *
          clear z0 z1 z2 z3 z4 z5 z6 z7 f5
          have l6 := b6'.lt
          have f6 := fun i => b6'.free i
          have y0 := b6'.cell 0 rfl
          have y1 := b6'.cell 1 rfl
          have y2 := b6'.cell 2 rfl
          have y3 := b6'.cell 3 rfl
          have y4 := b6'.cell 4 rfl
          have y5 := b6'.cell 5 rfl
          have y6 := b6'.cell 6 rfl
          have y7 := b6'.cell 7 rfl
          obtain ⟨b6'', hg6⟩ := b6'.store8 (.int .i64 rs[k].kind) (.string rs[k].cls) (.string rs[k].mth) (.int .i64 rs[k].pth.root) (.int .i64 rs[k].pth.n) (.slice B5 rs[k].pth.fields.length e5) (.bool rs[k].pth.star) (.string rs[k].tag)
          have b5'' := b5'.grown hg6 (by simp)
          have hb4 := hb3.grown hg6 hb3.size (fun k hk => by injection hk with hk; omega)
          refine RZ.single 13 rfl (by kernel_rfl) (by omega) ?_
          intro K hK
          go_wp2_with fail
          refine hK _ _ (below_undrewS hb4) ?_
          clear hK
          (refine RZ.done (by kernel_rfl) (by kernel_rfl) ?_)
          go_wp2_with fail
          go_meet
          exact ⟨_, _, rfl, rfl, b5'', b6'', hb4⟩
        · intro K hK
          go_wp2_with fail
          refine hK _ _ (bw_alloc (Below.refl _ _)) ?_
          clear hK
          refine RZ.single 10 rfl (by kernel_rfl) (by omega) ?_
          intro K hK
          go_wp2_with fail
          refine hK _ _ (bw_alloc (bw_alloc (Below.refl _ _))) ?_
          clear hK
          generalize hW : World.drew (World.alloc (World.alloc _ _) _) = W2
          have hb2 : Below wr.heap.size wr W2 := by rw [← hW]; exact (by repeat (first | assumption | exact Below.refl _ _ | apply bw_alloc | apply bw_drew | apply bw_drewN | apply bw_later | apply bw_step))
          have b5 : Box W2 (wr.heap.size + 1) [.int .i64 0, .string ⟨#[]⟩, .string ⟨#[]⟩, .int .i64 0, .int .i64 0, .slice none 0 0, .bool false, .string ⟨#[]⟩] 51 := by rw [← hW]; exact (by repeat (first | (refine Box.at ?_; (simp; done)) | apply Box.drew | apply Box.alloc | assumption))
          have b6 : Box W2 wr.heap.size [.int .i64 0, .string ⟨#[]⟩, .string ⟨#[]⟩, .int .i64 0, .int .i64 0, .slice none 0 0, .bool false, .string ⟨#[]⟩] 51 := by rw [← hW]; exact (by repeat (first | (refine Box.at ?_; (simp; done)) | apply Box.drew | apply Box.alloc | assumption))
          clear hW
          have l5 := b5.lt
          have f5 := fun i => b5.free i
          have z0 := b5.cell 0 rfl
          have z1 := b5.cell 1 rfl
          have z2 := b5.cell 2 rfl
          have z3 := b5.cell 3 rfl
          have z4 := b5.cell 4 rfl
          have z5 := b5.cell 5 rfl
          have z6 := b5.cell 6 rfl
          have z7 := b5.cell 7 rfl
          obtain ⟨b5', hg5⟩ := b5.store8 (.int .i64 rs[k].kind) (.string rs[k].cls) (.string rs[k].mth) (.int .i64 rs[k].pth.root) (.int .i64 rs[k].pth.n) (.slice A5 rs[k].pth.fields.length c5) (.bool rs[k].pth.star) (.string rs[k].tag)
          have b6' := b6.grown hg5 (by simp)
          have hb3 := hb2.grown hg5 hb2.size (fun k hk => by injection hk with hk; omega)
          refine RZ.single 12 rfl (by kernel_rfl) (by omega) ?_
          intro K hK
          go_wp2_with fail
          refine hK _ _ (below_undrewS hb3) ?_
          clear hK
          generalize World.setCell (World.setCell (World.setCell _ _ _) _ _) _ _ = W3 at *
          clear z0 z1 z2 z3 z4 z5 z6 z7 f5
          have l6 := b6'.lt
          have f6 := fun i => b6'.free i
          have y0 := b6'.cell 0 rfl
          have y1 := b6'.cell 1 rfl
          have y2 := b6'.cell 2 rfl
          have y3 := b6'.cell 3 rfl
          have y4 := b6'.cell 4 rfl
          have y5 := b6'.cell 5 rfl
          have y6 := b6'.cell 6 rfl
          have y7 := b6'.cell 7 rfl
          obtain ⟨b6'', hg6⟩ := b6'.store8 (.int .i64 rs[k].kind) (.string rs[k].cls) (.string rs[k].mth) (.int .i64 rs[k].pth.root) (.int .i64 rs[k].pth.n) (.slice B5 rs[k].pth.fields.length e5) (.bool rs[k].pth.star) (.string rs[k].tag)
          have b5'' := b5'.grown hg6 (by simp)
          have hb4 := hb3.grown hg6 hb3.size (fun k hk => by injection hk with hk; omega)
          refine RZ.single 13 rfl (by kernel_rfl) (by omega) ?_
          intro K hK
          go_wp2_with fail
          refine hK _ _ (below_undrewS hb4) ?_
          clear hK
          (refine RZ.done (by kernel_rfl) (by kernel_rfl) ?_)
          go_wp2_with fail
          go_meet
          exact ⟨_, _, rfl, rfl, b5'', b6'', hb4⟩
      case rest =>
        obtain ⟨g5, g6, rfl, rfl, b5, b6, hb1⟩ := hcut
        have hbx1 := hbx.mono hb1
        have hby1 := hby.mono hb1
        have hbw1 := below_step hbw hb1
        have hs5' := hs5.mono hb1
        have hs6' := hs6.mono hb1
        clear hbx hby hbw d0 d1 d2 d3 d4 d5 d6 d7 e0 e1 e2 e3 e4 e5' e6 e7 p0 q0 pl ql
        have l5 := b5.lt
        have l6 := b6.lt
        have z0 := b5.cell 0 rfl
        have y0 := b6.cell 0 rfl
        have z1 := b5.cell 1 rfl
        have y1 := b6.cell 1 rfl
        have z2 := b5.cell 2 rfl
        have y2 := b6.cell 2 rfl
        have z3 := b5.cell 3 rfl
        have y3 := b6.cell 3 rfl
        have z4 := b5.cell 4 rfl
        have y4 := b6.cell 4 rfl
        have z5 := b5.cell 5 rfl
        have y5 := b6.cell 5 rfl
        have z6 := b5.cell 6 rfl
        have y6 := b6.cell 6 rfl
        have z7 := b5.cell 7 rfl
        have y7 := b6.cell 7 rfl
        have t1 : (rs[k].kind == rs[k].kind) = true := by simp
        have t2 : (rs[k].cls.toList == rs[k].cls.toList) = true := by simp
        have t3 : (rs[k].mth.toList == rs[k].mth.toList) = true := by simp
        have t4 : (rs[k].tag.toList == rs[k].tag.toList) = true := by simp
        go_wp2_with fail
        refine (acpSame rs[k].pth A5 B5 c5 e5 _ hfl hs5' hs6').mono ?_
        rintro e w4 ⟨rfl, hb4⟩
        go_wp2_with fail
        go_roundw
        case rel => exact ⟨k + 1, by omega, by go_num, hbx1.mono hb4, hby1.mono hb4, below_step hbw1 hb4⟩
        case measure => simp [intOf]; omega
    · go_wp2_with fail
      clear p0 q0 pl ql hk hlt
      obtain ⟨wo, rfl⟩ : ∃ wo : World, wo = wr := ⟨_, rfl⟩
      go_loopw [8] (fun i wr => ∃ k : Nat, k ≤ ps.length ∧ i = .int .i64 k ∧ Box wr w.heap.size [.slice A rs.length c, .slice A2 ps.length c2] 25 ∧ Box wr (w.heap.size + 1) [.slice B rs.length d, .slice B2 ps.length d2] 25 ∧ Below w.heap.size w wr) (fun i _ => ps.length - (intOf i).toNat)
      case atStart => exact ⟨0, Nat.zero_le _, rfl, hbx, hby, hbw⟩
      case round =>
        clear hbx hby hbw
        obtain ⟨k, hk, rfl, hbx, hby, hbw⟩ := hrel
        have p1 := hbx.cell 1 rfl
        have q1 := hby.cell 1 rfl
        have pl := hbx.lt
        have ql := hby.lt
        by_cases hlt : k < ps.length
        · obtain ⟨b, o, A5, c5, A6, c6, rfl, h1, d0, d1, d2, d3, d4, hc5, hs5, hc6, hs6⟩ := (ha2.mono hbw).ptc_at hlt
          obtain ⟨b', o', B5, e5, B6, e6, rfl, h2, e0, e1, e2, e3, e4, hd5, ht5, hd6, ht6⟩ := (hb2.mono hbw).ptc_at hlt
          have ok1 := okp.out _ (List.getElem_mem hlt)
          have HS : Hid (∀ x : Later wr, Calls Tryz.prog 54 #[.agg #[.string ps[k].cls, .slice A5 ps[k].states.length c5, .int .i64 ps[k].start, .int .i64 ps[k].err, .slice A6 ps[k].moves.length c6], .agg #[.string ps[k].cls, .slice B5 ps[k].states.length e5, .int .i64 ps[k].start, .int .i64 ps[k].err, .slice B6 ps[k].moves.length e6]] x.W fun e w' => e = .returned (.bool true) ∧ Below x.W.heap.size x.W w') := fun x => ptcSame ps[k] A5 B5 A6 B6 c5 e5 c6 e6 x.W ok1.2.1 ok1.2.2.2.1 (hs5.mono x.h) (ht5.mono x.h) (hs6.mono x.h) (ht6.mono x.h)
          clear ok1
          go_wp2_with fail
          refine wp_region_later (by kernel_rfl) (by kernel_rfl) ?_
          repeat (go_big_quiet_step (first | (go_at_call 54; exact Calls.later (HS.out _))))
          refine wpQuiet_nil ?_
          rintro _ ⟨x, rfl⟩
          go_wp2_with fail
          go_roundw
          case rel => exact ⟨k + 1, by omega, by go_num, hbx.mono x.h, hby.mono x.h, below_step hbw x.h⟩
          case measure => simp [intOf]; omega
        · go_wp2_with fail
          go_ret
          exact ⟨rfl, hbw⟩
end Go.Proofs.YthabojhnliomnaaGreatDoor

namespace Go.Proofs.YthabojhnliomnaaGreatDoor
open Go.RowKit
set_option linter.unusedVariables false

theorem okPol_of {q : Pol} (h : (polE q).2 = 0) : OkPol q := by
  obtain ⟨h1, h2⟩ := polE_okV h
  have h3 := polE_lens' h
  refine ⟨by omega, by omega, fun x hx => ?_, fun x hx => ?_⟩
  · have hv := h1 x hx
    have a1 := hv.cls
    have a2 := hv.mth
    have a3 := hv.tag
    have a4 := hv.pth.len
    exact ⟨by omega, by omega, by omega, by omega, fun y hy => by have := hv.pth.sz y hy; omega⟩
  · have hv := h2 x hx
    have a1 := hv.cls
    have a2 := hv.len
    have a3 := hv.mlen
    exact ⟨by omega, by omega, fun y hy => by have := hv.sz y hy; omega, by omega, fun m hm => by
      obtain ⟨k, hk, rfl⟩ := List.getElem_of_mem hm
      have := (hv.mv k hk).2.2
      omega⟩
theorem textR_ok {q : Pol} (h : (textR q).2 = 0) : (polE q).2 = 0 := by
  unfold textR at h
  split at h
  · rename_i hn; exact absurd h hn
  · rename_i hn; simpa using hn
set_option maxRecDepth 100000 in
set_option maxHeartbeats 4000000 in
theorem walk_PolicyBack (p : Pol) (s : ByteArray) (A A2 : Option Addr) (c c2 : Nat) (w : World) (hg : Glob w) (hok : Hid (OkPol p)) (hc2 : p.protocols.length ≤ c2) (hs : Sl Lay.rul w A p.rules) (hs2 : Sl Lay.ptc w A2 p.protocols) :
    Calls Tryz.prog 6 #[.agg #[.slice A p.rules.length c, .slice A2 p.protocols.length c2], .string s] w fun e w' => e = .returned (.bool true) ∧ Below w.heap.size w w' := by
  have bx0 := Box.new w [.slice A p.rules.length c, .slice A2 p.protocols.length c2] 25
  have hb0 : Below w.heap.size w (w.alloc (.cells #[.slice A p.rules.length c, .slice A2 p.protocols.length c2] 25)) := (by repeat (first | assumption | exact Below.refl _ _ | apply bw_alloc | apply bw_drew | apply bw_drewN | apply bw_later | apply bw_step))
  have HA := Lib.hid (fun W h => polText_any p A A2 c c2 W hok (hg.mono h).kw hc2 (hs.mono h) (hs2.mono h))
  have HW := Lib.hid (fun W h => awake_any W (hg.mono h))
  obtain ⟨R, HR⟩ : ∃ R, Hid (R = polP s) := ⟨_, Lib.hid rfl⟩
  have HP := Lib.hid (fun W h => polParse_any s W (hg.mono h))
  rw [← HR.out] at HP
  have hcs := polP_cases s
  rw [← HR.out] at hcs
  obtain ⟨q, at7, f⟩ := R
  simp only at hcs
  have HZ : Hid (¬ f = 0 → q = zPol) := fun h => by
    rcases hcs with e | ⟨_, e⟩
    · exact absurd e h
    · exact e
  have HTX : Hid (f = 0 → textR q = (s, 0)) := fun h => by subst h; exact text_polP HR.out.symm
  have HOKQ : Hid (f = 0 → Hid (OkPol q)) := fun h => Lib.hid (okPol_of (textR_ok (by rw [HTX.out h])))
  clear hcs HR
  have HB : Hid ((textR p).2 = 0 → ∀ W, Below w.heap.size w W → Calls Tryz.prog 15 #[.string (textR p).1] W fun e w' => RetPol (p, 0, 0) w' e ∧ Below W.heap.size W w') := fun h W hW => by
    have := polParse_any (textR p).1 W (hg.mono hW)
    rwa [polP_text h] at this
  generalize textR p = r at *
  obtain ⟨r1, r2⟩ := r
  simp only at HA HB
  have t1 : (s.toList == s.toList) = true := by simp
  go_enter Tryz.func6, Tryz.ntmps6
  go_wp2_with fail
  refine (HA.out _ hb0).mono ?_
  rintro e w1 ⟨rfl, hb1⟩
  have bx1 := bx0.mono hb1
  have hbw1 := below_step hb0 hb1
  clear bx0 hb0 hb1 HA
  by_cases h2 : r2 = 0
  · have HB2 := Lib.hid (HB.out h2)
    subst h2
    clear HB
    go_wp2_with fail
    refine (HB2.out _ hbw1).mono ?_
    rintro e w2 ⟨hr2, hb2⟩
    obtain ⟨A3, n3, A4, n4, rfl, j1, j2, j3, j4⟩ := hr2
    simp only at j1 j2 j3 j4 ⊢
    have hbw2 := below_step hbw1 hb2
    have bx2 := (bx1.mono hb2).alloc (.cells #[.slice A3 p.rules.length n3, .slice A4 p.protocols.length n4] 25)
    have hb3 : Below w.heap.size w (w2.alloc (.cells #[.slice A3 p.rules.length n3, .slice A4 p.protocols.length n4] 25)) := bw_alloc hbw2
    have j2' := j2.mono (bw_alloc (o := .cells #[.slice A3 p.rules.length n3, .slice A4 p.protocols.length n4] 25) (Below.refl w2.heap.size w2))
    have j4' := j4.mono (bw_alloc (o := .cells #[.slice A3 p.rules.length n3, .slice A4 p.protocols.length n4] 25) (Below.refl w2.heap.size w2))
    have HS := Lib.hid (polSame p A A3 A2 A4 c n3 c2 n4 _ hok (hs.mono hb3) j2' (hs2.mono hb3) j4')
    have x0 := bx2.cell 0 rfl
    have x1 := bx2.cell 1 rfl
    have xl := bx2.lt
    go_wp2_with fail
    refine HS.out.mono ?_
    rintro e w4 ⟨rfl, hb4⟩
    have hbw4 := below_step hb3 hb4
    clear x0 x1 xl HS bx2 bx1 j1 j2 j3 j4 j2' j4' hb3 hb2 hbw2 hbw1
    go_wp2_with fail
    refine (HP.out _ hbw4).mono ?_
    rintro e w7 ⟨hr7, hb7⟩
    obtain ⟨A0, n0, A1, n1, rfl, k1, k2, k3, k4⟩ := hr7
    have hbw7 := below_step hbw4 hb7
    by_cases hf : f = 0
    · have HOK := Lib.hid (HOKQ.out hf)
      have HTQ := Lib.hid (HTX.out hf)
      subst hf
      have hb8 : Below w.heap.size w (w7.alloc (.cells #[.slice A0 q.rules.length n0, .slice A1 q.protocols.length n1] 25)) := bw_alloc hbw7
      have k2' := k2.mono (bw_alloc (o := .cells #[.slice A0 q.rules.length n0, .slice A1 q.protocols.length n1] 25) (Below.refl w7.heap.size w7))
      have k4' := k4.mono (bw_alloc (o := .cells #[.slice A0 q.rules.length n0, .slice A1 q.protocols.length n1] 25) (Below.refl w7.heap.size w7))
      have HTT := Lib.hid (polText_any q A0 A1 n0 n1 _ HOK (hg.mono hb8).kw k3 k2' k4')
      rw [HTQ.out] at HTT
      simp only at HTT
      go_wp2_with fail
      refine HTT.out.mono ?_
      rintro e w9 ⟨rfl, hb9⟩
      have hbw9 := below_step hb8 hb9
      go_wp2_with fail
      refine (HW.out _ hbw9).mono ?_
      rintro e w10 ⟨rfl, hb10⟩
      go_wp2_with fail
      go_ret
      exact ⟨rfl, below_step hbw9 hb10⟩
    · have hq := HZ.out hf
      have tf : (f != 0) = true := by simpa using hf
      subst hq
      have hb8 : Below w.heap.size w (w7.alloc (.cells #[.slice A0 0 n0, .slice A1 0 n1] 25)) := bw_alloc hbw7
      simp only [zPol, List.length_nil]
      clear hf
      go_wp2_with fail
      refine (HW.out _ hb8).mono ?_
      rintro e w10 ⟨rfl, hb10⟩
      go_wp2_with fail
      go_ret
      exact ⟨rfl, below_step hb8 hb10⟩
  · have tr : (r2 == 0) = false := by simpa using h2
    clear h2 HB bx1
    go_wp2_with fail
    refine (HP.out _ hbw1).mono ?_
    rintro e w7 ⟨hr7, hb7⟩
    obtain ⟨A0, n0, A1, n1, rfl, k1, k2, k3, k4⟩ := hr7
    have hbw7 := below_step hbw1 hb7
    by_cases hf : f = 0
    · have HOK := Lib.hid (HOKQ.out hf)
      have HTQ := Lib.hid (HTX.out hf)
      subst hf
      have hb8 : Below w.heap.size w (w7.alloc (.cells #[.slice A0 q.rules.length n0, .slice A1 q.protocols.length n1] 25)) := bw_alloc hbw7
      have k2' := k2.mono (bw_alloc (o := .cells #[.slice A0 q.rules.length n0, .slice A1 q.protocols.length n1] 25) (Below.refl w7.heap.size w7))
      have k4' := k4.mono (bw_alloc (o := .cells #[.slice A0 q.rules.length n0, .slice A1 q.protocols.length n1] 25) (Below.refl w7.heap.size w7))
      have HTT := Lib.hid (polText_any q A0 A1 n0 n1 _ HOK (hg.mono hb8).kw k3 k2' k4')
      rw [HTQ.out] at HTT
      simp only at HTT
      go_wp2_with fail
      refine HTT.out.mono ?_
      rintro e w9 ⟨rfl, hb9⟩
      have hbw9 := below_step hb8 hb9
      go_wp2_with fail
      refine (HW.out _ hbw9).mono ?_
      rintro e w10 ⟨rfl, hb10⟩
      go_wp2_with fail
      go_ret
      exact ⟨rfl, below_step hbw9 hb10⟩
    · have hq := HZ.out hf
      have tf : (f != 0) = true := by simpa using hf
      subst hq
      have hb8 : Below w.heap.size w (w7.alloc (.cells #[.slice A0 0 n0, .slice A1 0 n1] 25)) := bw_alloc hbw7
      simp only [zPol, List.length_nil]
      clear hf
      go_wp2_with fail
      refine (HW.out _ hb8).mono ?_
      rintro e w10 ⟨rfl, hb10⟩
      go_wp2_with fail
      go_ret
      exact ⟨rfl, below_step hb8 hb10⟩
end Go.Proofs.YthabojhnliomnaaGreatDoor
