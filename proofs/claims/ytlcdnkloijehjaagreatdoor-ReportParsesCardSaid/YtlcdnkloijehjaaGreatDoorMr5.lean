/-
  Joined (wip/merge.py): RsE, RsF, RsG.
-/
import Derived.Test.YtlcdnkloijehjaaGreatDoorRsD
import Derived.Test.YtlcdnkloijehjaaGreatDoorMr1
import Derived.Test.YtlcdnkloijehjaaGreatDoorRepP

namespace Go.Proofs.YtlcdnkloijehjaaGreatDoor
open Go.RowKit
set_option linter.unusedVariables false

theorem RrS.grown {wl : World} {L : List (List ByteArray)} {A : Option Addr} {c rb I : Nat} {E : Int} {W W' : World} {row : Option Nat} (h : RrS wl L A c rb I E W) (hg : W.grownBy W' row) (hne : some rb ≠ row) (hlo : ∀ k, row = some k → wl.heap.size ≤ k) : RrS wl L A c rb I E W' :=
  ⟨h.bx.grown hg hne, h.bel.grown hg h.bel.size hlo, h.lb, h.le⟩
/-- The state of Parse: the reader, the report, its three rows. -/
structure PQ (wl : World) (L : List (List ByteArray)) (A : Option Addr) (c rb b6 J : Nat) (E : Int) (vO vH vU : Value) (ro : List RFnd) (rh : List RHdn) (U : List Int) (O : List Fnd) (H : List Hdn) (w : World) : Prop where
  rd : RrS wl L A c rb J E w
  bx6 : Box w b6 [vO, vH, vU] 26
  oO : Own cellsRFnd 6 wl.heap.size 46 w vO ro
  oH : Own cellsRHdn 7 wl.heap.size 48 w vH rh
  oU : Own cellsInt 1 wl.heap.size 3 w vU U
  rO : E = 0 → RowsF wl.heap.size w ro O
  rH : E = 0 → RowsH wl.heap.size w rh H
  l3 : wl.heap.size ≤ b6
section
variable {wl : World} {L : List (List ByteArray)} {A : Option Addr} {c rb b6 J J' : Nat} {E E' : Int} {vO vH vU : Value} {ro : List RFnd} {rh : List RHdn} {U : List Int} {O : List Fnd} {H : List Hdn} {w w' : World}
theorem PQ.mono (h : PQ wl L A c rb b6 J E vO vH vU ro rh U O H w) (hb : Below w.heap.size w w') : PQ wl L A c rb b6 J E vO vH vU ro rh U O H w' :=
  ⟨h.rd.mono hb, h.bx6.mono hb, h.oO.mono hb, h.oH.mono hb, h.oU.mono hb, fun e => (h.rO e).map (fun _ _ k => k.mono hb), fun e => (h.rH e).map (fun _ _ k => k.mono hb), h.l3⟩
/-- The reader turns; an error may come up. -/
theorem PQ.turn (h : PQ wl L A c rb b6 J E vO vH vU ro rh U O H w) (hr : RrS wl L A c rb J' E' w') (hg : w.grownBy w' (some rb)) (hE : E' = 0 → E = 0) : PQ wl L A c rb b6 J' E' vO vH vU ro rh U O H w' := by
  have n2 := ne_of_types h.bx6 h.rd.bx (by decide)
  exact ⟨hr, h.bx6.grown hg (fun e => n2 (by injection e)), h.oO.kept_box h.rd.bx (by decide) hg, h.oH.kept_box h.rd.bx (by decide) hg, h.oU.kept_box h.rd.bx (by decide) hg,
    fun e => (h.rO (hE e)).map (fun _ _ k => k.kept_box h.rd.bx (by decide) hg), fun e => (h.rH (hE e)).map (fun _ _ k => k.kept_box h.rd.bx (by decide) hg), h.l3⟩
/-- A store into another box of the call's. -/
theorem PQ.other {b : Nat} {cs : List Value} {t : TypeId} (h : PQ wl L A c rb b6 J E vO vH vU ro rh U O H w) (hb : Box w b cs t) (e1 : 43 ≠ t) (e5 : 88 ≠ t) (e7 : 26 ≠ t) (o1 : vO.ownBlock ≠ some b) (o2 : vH.ownBlock ≠ some b) (o3 : vU.ownBlock ≠ some b) (hg : w.grownBy w' (some b)) (hlt : wl.heap.size ≤ b) : PQ wl L A c rb b6 J E vO vH vU ro rh U O H w' := by
  have n0 := ne_of_types h.rd.bx hb e5
  have n2 := ne_of_types h.bx6 hb e7
  exact ⟨h.rd.grown hg (fun e => n0 (by injection e)) (fun k hk => by injection hk with hk; omega), h.bx6.grown hg (fun e => n2 (by injection e)), h.oO.kept hg (fun k hk => by injection hk with hk; subst hk; exact o1), h.oH.kept hg (fun k hk => by injection hk with hk; subst hk; exact o2), h.oU.kept hg (fun k hk => by injection hk with hk; subst hk; exact o3),
    fun e => (h.rO e).map (fun _ _ k => k.kept_box hb e1 hg), fun e => (h.rH e).map (fun _ _ k => k.kept_box hb e1 hg), h.l3⟩
/-- An open finding is appended and stored. -/
theorem PQ.pushO {vO' : Value} {r : RFnd} {x : Fnd} {O2 : List Fnd} (h : PQ wl L A c rb b6 J E vO vH vU ro rh U O H w) (ho : Own cellsRFnd 6 wl.heap.size 46 w' vO' (ro ++ [r])) (hg : w.grownBy w' vO.ownBlock) (hr : E = 0 → RowF wl.heap.size w r x) (hO : E = 0 → O2 = O ++ [x]) :
    PQ wl L A c rb b6 J E vO' vH vU (ro ++ [r]) rh U O2 H (w'.setCell ⟨b6, 0, none⟩ vO') := by
  have hb6 := h.bx6.grown hg (h.oO.ne_box h.bx6 (by decide))
  have hs := grown_set w' b6 0 vO'
  have n1 := ne_of_types h.rd.bx h.bx6 (by decide)
  have hrd := h.rd.grown hg (h.oO.ne_box h.rd.bx (by decide)) (fun k hk => (World.ownsRow.lt h.oO k hk).1)
  refine ⟨hrd.grown hs (fun e => n1 (by injection e)) (fun k hk => by injection hk with hk; have := h.l3; omega), hb6.set 0 vO', ho.kept_box hb6 (by decide) hs,
    (h.oH.kept_other h.oO (by decide) hg).kept_box hb6 (by decide) hs, (h.oU.kept_other h.oO (by decide) hg).kept_box hb6 (by decide) hs, fun e => ?_, fun e => (h.rH e).map (fun _ _ k => (k.kept_other h.oO (by decide) hg).kept_box hb6 (by decide) hs), h.l3⟩
  rw [hO e]
  have h1 := (h.rO e).map (w' := w'.setCell ⟨b6, 0, none⟩ vO') (fun _ _ k => (k.kept_other h.oO (by decide) hg).kept_box hb6 (by decide) hs)
  have h2 : RowF wl.heap.size (w'.setCell ⟨b6, 0, none⟩ vO') r x := (hr e).map (fun k => (k.kept_other h.oO (by decide) hg).kept_box hb6 (by decide) hs)
  exact ⟨by rw [List.length_append, List.length_append, h1.len]; rfl, snoc_each h1.len h1.each h2⟩
theorem PQ.pushH {vH' : Value} {r : RHdn} {x : Hdn} {H2 : List Hdn} (h : PQ wl L A c rb b6 J E vO vH vU ro rh U O H w) (ho : Own cellsRHdn 7 wl.heap.size 48 w' vH' (rh ++ [r])) (hg : w.grownBy w' vH.ownBlock) (hr : E = 0 → RowF wl.heap.size w r.f x.f ∧ r.note = x.note) (hH : E = 0 → H2 = H ++ [x]) :
    PQ wl L A c rb b6 J E vO vH' vU ro (rh ++ [r]) U O H2 (w'.setCell ⟨b6, 1, none⟩ vH') := by
  have hb6 := h.bx6.grown hg (h.oH.ne_box h.bx6 (by decide))
  have hs := grown_set w' b6 1 vH'
  have n1 := ne_of_types h.rd.bx h.bx6 (by decide)
  have hrd := h.rd.grown hg (h.oH.ne_box h.rd.bx (by decide)) (fun k hk => (World.ownsRow.lt h.oH k hk).1)
  refine ⟨hrd.grown hs (fun e => n1 (by injection e)) (fun k hk => by injection hk with hk; have := h.l3; omega), hb6.set 1 vH', (h.oO.kept_other h.oH (by decide) hg).kept_box hb6 (by decide) hs,
    ho.kept_box hb6 (by decide) hs, (h.oU.kept_other h.oH (by decide) hg).kept_box hb6 (by decide) hs, fun e => (h.rO e).map (fun _ _ k => (k.kept_other h.oH (by decide) hg).kept_box hb6 (by decide) hs), fun e => ?_, h.l3⟩
  rw [hH e]
  have h1 := (h.rH e).map (w' := w'.setCell ⟨b6, 1, none⟩ vH') (fun _ _ k => (k.kept_other h.oH (by decide) hg).kept_box hb6 (by decide) hs)
  have h2 : RowF wl.heap.size (w'.setCell ⟨b6, 1, none⟩ vH') r.f x.f := (hr e).1.map (fun k => (k.kept_other h.oH (by decide) hg).kept_box hb6 (by decide) hs)
  exact ⟨by rw [List.length_append, List.length_append, h1.len]; rfl, snoc_each h1.len h1.each ⟨h2, (hr e).2⟩⟩
theorem PQ.pushU {vU' : Value} {n : Int} (h : PQ wl L A c rb b6 J E vO vH vU ro rh U O H w) (ho : Own cellsInt 1 wl.heap.size 3 w' vU' (U ++ [n])) (hg : w.grownBy w' vU.ownBlock) :
    PQ wl L A c rb b6 J E vO vH vU' ro rh (U ++ [n]) O H (w'.setCell ⟨b6, 2, none⟩ vU') := by
  have hb6 := h.bx6.grown hg (h.oU.ne_box h.bx6 (by decide))
  have hs := grown_set w' b6 2 vU'
  have n1 := ne_of_types h.rd.bx h.bx6 (by decide)
  have hrd := h.rd.grown hg (h.oU.ne_box h.rd.bx (by decide)) (fun k hk => (World.ownsRow.lt h.oU k hk).1)
  exact ⟨hrd.grown hs (fun e => n1 (by injection e)) (fun k hk => by injection hk with hk; have := h.l3; omega), hb6.set 2 vU', (h.oO.kept_other h.oU (by decide) hg).kept_box hb6 (by decide) hs,
    (h.oH.kept_other h.oU (by decide) hg).kept_box hb6 (by decide) hs, ho.kept_box hb6 (by decide) hs, fun e => (h.rO e).map (fun _ _ k => (k.kept_other h.oU (by decide) hg).kept_box hb6 (by decide) hs), fun e => (h.rH e).map (fun _ _ k => (k.kept_other h.oU (by decide) hg).kept_box hb6 (by decide) hs), h.l3⟩
end
/-! ### The sections, plain -/
section
variable {L : List (List ByteArray)} {T : Rpt × Int × Int} {more : Bool}
theorem cntP_err {I J : Nat} {nm : List UInt8} {E n : Int} (h : cntP L I nm = (J, E, n)) (hE : E ≠ 0) : n = 0 := by
  unfold cntP at h
  split at h
  · split at h
    · injection h with _ h; injection h with h _; exact absurd h.symm hE
    · injection h with _ h; injection h with _ h; exact h.symm
  · injection h with _ h; injection h with _ h; exact h.symm
/-- Behind the first count: what is left of the first section, or the end. -/
theorem par1 (hT : T = parL L more) {J : Nat} {E n : Int} (h : cntP L 0 wOpn = (J, E, n)) : ∃ n0 : Nat, n = n0 ∧ n0 ≤ 1000000 ∧ ((E = 0 ∧ opnP L n0 J [] = sec1 L) ∨ (E ≠ 0 ∧ T = (rpt0, (J : Int) + 1, E))) := by
  have hle := cntP_le L 0 wOpn
  rw [h] at hle
  simp only at hle
  refine ⟨n.toNat, by omega, by omega, ?_⟩
  by_cases hE : E = 0
  · subst hE
    exact Or.inl ⟨rfl, (secP_ok h).symm⟩
  · obtain rfl : n = 0 := cntP_err h hE
    have e1 : sec1 L = (J, E, []) := secP_bad h hE
    refine Or.inr ⟨hE, ?_⟩
    rw [hT]
    unfold parL
    rw [if_pos (by rw [e1]; exact hE), e1]
theorem par1_bad (hT : T = parL L more) {J : Nat} {E : Int} (hE : E ≠ 0) (h1 : (sec1 L).1 = J) (h2 : (sec1 L).2.1 = E) : T = (rpt0, (J : Int) + 1, E) := by
  rw [hT]
  unfold parL
  rw [if_pos (by rw [h2]; exact hE), h1, h2]
theorem par2 (hT : T = parL L more) {J0 J : Nat} {E n : Int} {O : List Fnd} (h1 : sec1 L = (J0, 0, O)) (h : cntP L J0 wHdn = (J, E, n)) : ∃ n0 : Nat, n = n0 ∧ n0 ≤ 1000000 ∧ ((E = 0 ∧ hdnP L n0 J [] = sec2 L) ∨ (E ≠ 0 ∧ T = (rpt0, (J : Int) + 1, E))) := by
  have hle := cntP_le L J0 wHdn
  rw [h] at hle
  simp only at hle
  have e0 : sec2 L = secP L wHdn (hdnP L) J0 := by unfold sec2; rw [h1]
  refine ⟨n.toNat, by omega, by omega, ?_⟩
  by_cases hE : E = 0
  · subst hE
    exact Or.inl ⟨rfl, by rw [e0, secP_ok h]⟩
  · obtain rfl : n = 0 := cntP_err h hE
    have e1 : sec2 L = (J, E, []) := by rw [e0]; exact secP_bad h hE
    refine Or.inr ⟨hE, ?_⟩
    rw [hT]
    unfold parL
    rw [if_neg (by rw [h1]; simp), if_pos (by rw [e1]; exact hE), e1]
theorem par2_bad (hT : T = parL L more) {J0 J : Nat} {E : Int} {O : List Fnd} (h0 : sec1 L = (J0, 0, O)) (hE : E ≠ 0) (h1 : (sec2 L).1 = J) (h2 : (sec2 L).2.1 = E) : T = (rpt0, (J : Int) + 1, E) := by
  rw [hT]
  unfold parL
  rw [if_neg (by rw [h0]; simp), if_pos (by rw [h2]; exact hE), h1, h2]
theorem par3 (hT : T = parL L more) {J0 J1 J : Nat} {E n : Int} {O : List Fnd} {H : List Hdn} (h0 : sec1 L = (J0, 0, O)) (h1 : sec2 L = (J1, 0, H)) (h : cntP L J1 wUns = (J, E, n)) : ∃ n0 : Nat, n = n0 ∧ n0 ≤ 1000000 ∧ ((E = 0 ∧ unsP L n0 J [] = sec3 L) ∨ (E ≠ 0 ∧ T = (rpt0, (J : Int) + 1, E))) := by
  have hle := cntP_le L J1 wUns
  rw [h] at hle
  simp only at hle
  have e0 : sec3 L = secP L wUns (unsP L) J1 := by unfold sec3; rw [h1]
  refine ⟨n.toNat, by omega, by omega, ?_⟩
  by_cases hE : E = 0
  · subst hE
    exact Or.inl ⟨rfl, by rw [e0, secP_ok h]⟩
  · obtain rfl : n = 0 := cntP_err h hE
    have e1 : sec3 L = (J, E, []) := by rw [e0]; exact secP_bad h hE
    refine Or.inr ⟨hE, ?_⟩
    rw [hT]
    unfold parL
    rw [if_neg (by rw [h0]; simp), if_neg (by rw [h1]; simp), if_pos (by rw [e1]; exact hE), e1]
theorem par3_bad (hT : T = parL L more) {J0 J1 J : Nat} {E : Int} {O : List Fnd} {H : List Hdn} (h0 : sec1 L = (J0, 0, O)) (h1 : sec2 L = (J1, 0, H)) (hE : E ≠ 0) (h2 : (sec3 L).1 = J) (h3 : (sec3 L).2.1 = E) : T = (rpt0, (J : Int) + 1, E) := by
  rw [hT]
  unfold parL
  rw [if_neg (by rw [h0]; simp), if_neg (by rw [h1]; simp), if_pos (by rw [h3]; exact hE), h2, h3]
theorem par4 (hT : T = parL L more) {J0 J1 J : Nat} {O : List Fnd} {H : List Hdn} {U : List Int} (h0 : sec1 L = (J0, 0, O)) (h1 : sec2 L = (J1, 0, H)) (h2 : sec3 L = (J, 0, U)) :
    T = if J < L.length ∨ more = true then (rpt0, (J : Int) + 1, 2) else if rptE ⟨O, H, U⟩ ≠ 0 then (rpt0, 0, rptE ⟨O, H, U⟩) else (⟨O, H, U⟩, 0, 0) := by
  rw [hT]
  unfold parL
  rw [h0, h1, h2]
  simp only [ne_eq, not_true_eq_false, if_false]
/-- One round of each section. -/
theorem opnP_round {m J : Nat} {acc : List Fnd} {S : Nat × Int × List Fnd} (h : opnP L (m + 1) J acc = S) : ((findP L J).2.1 = 0 → opnP L m (findP L J).1 (acc ++ [(findP L J).2.2]) = S) ∧ ((findP L J).2.1 ≠ 0 → S.1 = (findP L J).1 ∧ S.2.1 = (findP L J).2.1) := by
  unfold opnP at h
  constructor
  · intro h0; rwa [if_pos h0] at h
  · intro h0; rw [if_neg h0] at h; rw [← h]; exact ⟨rfl, rfl⟩
theorem hdnP_round {m J : Nat} {acc : List Hdn} {S : Nat × Int × List Hdn} (h : hdnP L (m + 1) J acc = S) : ((hdn1 L J).2.1 = 0 → hdnP L m (hdn1 L J).1 (acc ++ [(hdn1 L J).2.2]) = S) ∧ ((hdn1 L J).2.1 ≠ 0 → S.1 = (hdn1 L J).1 ∧ S.2.1 = (hdn1 L J).2.1) := by
  unfold hdnP at h
  constructor
  · intro h0; rwa [if_pos h0] at h
  · intro h0; rw [if_neg h0] at h; rw [← h]; exact ⟨rfl, rfl⟩
theorem unsP_round {m J : Nat} {acc : List Int} {S : Nat × Int × List Int} (h : unsP L (m + 1) J acc = S) : ((cntP L J wIdx).2.1 = 0 → unsP L m (cntP L J wIdx).1 (acc ++ [(cntP L J wIdx).2.2]) = S) ∧ ((cntP L J wIdx).2.1 ≠ 0 → S.1 = (cntP L J wIdx).1 ∧ S.2.1 = (cntP L J wIdx).2.1) := by
  unfold unsP at h
  constructor
  · intro h0; rwa [if_pos h0] at h
  · intro h0; rw [if_neg h0] at h; rw [← h]; exact ⟨rfl, rfl⟩
end
end Go.Proofs.YtlcdnkloijehjaaGreatDoor

namespace Go.Proofs.YtlcdnkloijehjaaGreatDoor
open Go.RowKit
set_option linter.unusedVariables false

theorem lines_len {s : ByteArray} {l : List ByteArray} (h : l ∈ linesW s) : l.length ≤ s.size + 1 := by
  obtain ⟨p, hp, rfl⟩ := List.mem_map.1 h
  have h1 := lineW_len p
  have h2 := spl_piece (List.dropLast_subset _ hp)
  rw [toL_len] at h2
  omega
/-- The rows of the report behind a store into the result. -/
theorem PQ.out {wl : World} {L : List (List ByteArray)} {A : Option Addr} {c rb b6 b2 J : Nat} {A0 A1 A2 : Option Addr} {n0 n1 n2 c0 c1 c2 : Nat} {ro : List RFnd} {rh : List RHdn} {U : List Int} {O : List Fnd} {H : List Hdn} {w w' : World} (h : PQ wl L A c rb b6 J 0 (.slice A0 n0 c0) (.slice A1 n1 c1) (.slice A2 n2 c2) ro rh U O H w) (hb2 : b2 < wl.heap.size) (hg : w.grownBy w' (some b2)) :
    Sl Lay.fnd w' A0 O ∧ Sl Lay.hdn w' A1 H ∧ Sl Lay.int w' A2 U := by
  have kk : ∀ {α : Type} {cs : α → List Value} {sz : Nat} {e : TypeId} {v : Value} {l : List α}, Own cs sz wl.heap.size e w v l → Own cs sz wl.heap.size e w' v l := fun k => k.kept hg (fun b hb he => by
    injection hb with hb
    have := (World.ownsRow.lt k b he).1
    omega)
  obtain ⟨A, c, e, _, h1⟩ := ((h.rO rfl).map (w' := w') (fun _ _ k => kk k)).sl (kk h.oO)
  obtain ⟨A', c', e', _, h2⟩ := ((h.rH rfl).map (w' := w') (fun _ _ k => kk k)).sl (kk h.oH)
  obtain ⟨A'', c'', e'', _, h3⟩ := (kk h.oU).sl (L := Lay.int) rfl (fun _ => rfl)
  injection e with e1
  injection e' with e2
  injection e'' with e3
  subst e1 e2 e3
  exact ⟨h1, h2, h3⟩
theorem PQ.forms {wl : World} {L : List (List ByteArray)} {A : Option Addr} {c rb b6 J : Nat} {vO vH vU : Value} {ro : List RFnd} {rh : List RHdn} {U : List Int} {O : List Fnd} {H : List Hdn} {w : World} (h : PQ wl L A c rb b6 J 0 vO vH vU ro rh U O H w) :
    (∃ A c, vO = .slice A O.length c ∧ O.length ≤ c ∧ Sl Lay.fnd w A O) ∧ (∃ A c, vH = .slice A H.length c ∧ H.length ≤ c ∧ Sl Lay.hdn w A H) ∧ (∃ A c, vU = .slice A U.length c ∧ U.length ≤ c ∧ Sl Lay.int w A U) :=
  ⟨(h.rO rfl).sl h.oO, (h.rH rfl).sl h.oH, h.oU.sl (L := Lay.int) rfl (fun _ => rfl)⟩
/-- A finding, at any error. -/
theorem refFinding_all {wl : World} {L : List (List ByteArray)} {A : Option Addr} {c rb I : Nat} {E : Int} (W : World) (hr : RrS wl L A c rb I E W) (hs : Sl Lay.str.slice wl A L) (hL : L.length ≤ 2000000) (hsm : Hid (∀ l ∈ L, l.length ≤ 2000000 ∧ ∀ x ∈ l, x.size ≤ 2000000)) :
    Calls Tryz.prog 53 #[.pointer (some ⟨rb, 0, none⟩)] W fun e w' => ∃ T : Nat × Int × Fnd, FndR W.heap.size T w' e ∧ RrS wl L A c rb T.1 T.2.1 w' ∧ W.grownBy w' (some rb) ∧ (E = 0 → T = findP L I) ∧ (E ≠ 0 → T = (I, E, fnd0)) := by
  by_cases hE : E = 0
  · subst hE
    refine (refFinding_any W hr hs hL hsm).mono ?_
    rintro e w' ⟨h1, h2, h3⟩
    exact ⟨_, h1, h2, h3, fun _ => rfl, fun h => absurd rfl h⟩
  · refine (refFinding_err W hr hs hL hsm hE).mono ?_
    rintro e w' ⟨h1, h2, h3⟩
    exact ⟨_, h1, h2, h3, fun h => absurd h hE, fun _ => rfl⟩
def CntA (wl : World) (L : List (List ByteArray)) (A : Option Addr) (c rb I : Nat) (E : Int) (nm : List UInt8) (W : World) (e : Ending) (w' : World) : Prop :=
  ∃ (J : Nat) (E' n : Int), e = .returned (.int .i64 n) ∧ RrS wl L A c rb J E' w' ∧ W.grownBy w' (some rb) ∧ (E = 0 → cntP L I nm = (J, E', n)) ∧ (E ≠ 0 → J = I ∧ E' = E ∧ n = 0)
theorem refCount_all {wl : World} {L : List (List ByteArray)} {A : Option Addr} {c rb I : Nat} {E : Int} (nm : ByteArray) (W : World) (hr : RrS wl L A c rb I E W) (hs : Sl Lay.str.slice wl A L) (hL : L.length ≤ 2000000) (hsm : Hid (∀ l ∈ L, l.length ≤ 2000000 ∧ ∀ x ∈ l, x.size ≤ 2000000)) :
    Calls Tryz.prog 52 #[.pointer (some ⟨rb, 0, none⟩), .string nm] W fun e w' => CntA wl L A c rb I E (toL nm) W e w' := by
  refine (refCount_any nm W hr hs hL hsm).mono ?_
  rintro e w' (⟨h1, rfl, rfl⟩ | ⟨h1, rfl, h2, h3⟩)
  · exact ⟨I, E, 0, rfl, hr, grown_below (Below.refl _ _) _, fun h => absurd h h1, fun _ => ⟨rfl, rfl, rfl⟩⟩
  · exact ⟨_, _, _, rfl, h2, h3, fun _ => rfl, fun h => absurd h1 h⟩
theorem hdn1Q {L : List (List ByteArray)} {J Jn : Nat} {En k : Int} {F : Nat × Int × Fnd} (h : cntP L J wNote = (Jn, En, k)) (h1 : En = 0 → F = findP L Jn) (h2 : En ≠ 0 → F = (Jn, En, fnd0)) : (hdn1 L J).1 = F.1 ∧ (hdn1 L J).2.1 = F.2.1 ∧ (F.2.1 = 0 → (hdn1 L J).2.2 = ⟨F.2.2, k⟩) := by
  unfold hdn1
  rw [h]
  by_cases hE : En = 0
  · rw [h1 hE]
    subst hE
    simp
  · rw [h2 hE]
    simp [hE]
set_option maxHeartbeats 16000000 in
set_option maxRecDepth 100000 in
theorem refParse_any (s : ByteArray) (w : World) (hs : s.size ≤ 9223372036854775807) :
    Calls Tryz.prog 17 #[.string s] w fun e w' => RetP (parR s) w' e ∧ Below w.heap.size w w' := by
  obtain ⟨T, HT⟩ : ∃ T, Hid (T = parR s) := ⟨_, Lib.hid rfl⟩
  rw [← HT.out]
  by_cases hbig : 1048576 < s.size
  · have HTB : Hid (T = (rpt0, 0, 3)) := by show _ = _; rw [HT.out]; unfold parR; rw [if_pos hbig]
    have hb' : 1048576 < (s.size : Int) := by omega
    go_enter Tryz.func17, Tryz.ntmps17
    go_wp2_with fail
    refine bodyPost_ret (v := .tuple #[.agg #[.slice none 0 0, .slice none 0 0, .slice none 0 0], .int .i64 0, .int .i64 3]) (by simp [results, Tryz.results17, go_sem]) rfl ⟨by rw [HTB.out]; exact RetP.zero 0 3 _, by exact (by repeat (first | assumption | exact Below.refl _ _ | apply bw_alloc | apply bw_drew | apply bw_drewN | apply bw_later | apply bw_step))⟩
  have hb' : ¬ 1048576 < (s.size : Int) := by omega
  have hs2 : s.size ≤ 1500000 := by omega
  have HTL : Hid (T = parL (linesW s) (decide (restN s ≠ []))) := by show _ = _; rw [HT.out]; unfold parR; rw [if_neg hbig]
  clear HT hbig
  have HOK := Lib.hid (par_ok s hs)
  have hLl : (linesW s).length ≤ 2000000 := by have := linesW_le s; omega
  have hsm : Hid (∀ l ∈ linesW s, l.length ≤ 2000000 ∧ ∀ x ∈ l, x.size ≤ 2000000) := fun l hl => ⟨by have := lines_len hl; omega, fun x hx => by have := lines_small s l hl x hx; omega⟩
  generalize hW0 : w.alloc (.cells #[.slice none 0 0, .slice none 0 0, .slice none 0 0] 26) = w0
  have x2 : Box w0 w.heap.size [.slice none 0 0, .slice none 0 0, .slice none 0 0] 26 := by rw [← hW0]; exact Box.new _ _ _
  have hb0 : Below w.heap.size w w0 := by rw [← hW0]; exact (by repeat (first | assumption | exact Below.refl _ _ | apply bw_alloc | apply bw_drew | apply bw_drewN | apply bw_later | apply bw_step))
  go_enter Tryz.func17, Tryz.ntmps17
  go_upto_region 3 with fail
  clear hW0
  go_wp2_with fail
  refine (refSplit_any s w0 (by omega)).mono ?_
  rintro e wl ⟨⟨A, c, rfl, hcA, hsl⟩, hbl⟩
  have x2l := x2.mono hbl
  have hbwl := below_step hb0 hbl
  have hzl := x2l.lt
  generalize decide (restN s ≠ []) = more at *
  generalize linesW s = L at *
  clear x2 hb0 hbl hb'
  have hP0 : PQ wl L A c wl.heap.size (wl.heap.size + 1) 0 0 (.slice none 0 0) (.slice none 0 0) (.slice none 0 0) [] [] [] [] [] ((wl.alloc (.cells #[.slice A L.length c, .int .i64 0, .int .i64 0] 88)).alloc (.cells #[.slice none 0 0, .slice none 0 0, .slice none 0 0] 26)) :=
    ⟨⟨(Box.new _ _ _).alloc _, by exact (by repeat (first | assumption | exact Below.refl _ _ | apply bw_alloc | apply bw_drew | apply bw_drewN | apply bw_later | apply bw_step)), Nat.le_refl _, Nat.zero_le _⟩, Box.at (by simp), Own.nil, Own.nil, Own.nil, fun _ => ⟨rfl, fun i r x h => by simp at h⟩, fun _ => ⟨rfl, fun i r x h => by simp at h⟩, by omega⟩
  go_upto_region 6 with fail
  generalize World.alloc (World.alloc wl _) _ = w1 at *
  obtain ⟨rb, hrb⟩ : ∃ rb, rb = wl.heap.size := ⟨_, rfl⟩
  obtain ⟨b6, hb6⟩ : ∃ b6, b6 = wl.heap.size + 1 := ⟨_, rfl⟩
  rw [← hb6] at hP0 ⊢
  rw [← hrb] at hP0 ⊢
  clear hrb hb6
  go_wp2_with fail
  refine (refCount_all ⟨#[111, 112, 101, 110]⟩ w1 hP0.rd hsl hLl hsm).mono ?_
  rintro e w2 ⟨J0, E0, n, rfl, hr2, hg2, hc1, -⟩
  have hP1 := hP0.turn hr2 hg2 (fun _ => rfl)
  have hc1' : cntP L 0 wOpn = (J0, E0, n) := hc1 rfl
  obtain ⟨n1, rfl, hn1, hS1⟩ := par1 HTL.out hc1'
  have HS1 := Lib.hid hS1
  clear hP0 hr2 hg2 hc1 hc1' hS1
  go_upto_block 0 with fail
  go_cut [10] (fun v10 wx => ∃ (J : Nat) (E : Int) (vO : Value) (ro : List RFnd) (O : List Fnd), ro.length ≤ 1000000 ∧ PQ wl L A c rb b6 J E vO (.slice none 0 0) (.slice none 0 0) ro [] [] O [] wx ∧ Hid ((E = 0 ∧ sec1 L = (J, 0, O)) ∨ (E ≠ 0 ∧ T = (rpt0, (J : Int) + 1, E))))
  case first =>
    go_wp2_with fail
    go_loopw [10] (fun v10 wr => ∃ (i J : Nat) (E : Int) (vO : Value) (ro : List RFnd) (O : List Fnd), v10 = .int .i64 i ∧ i ≤ n1 ∧ ro.length ≤ i ∧ PQ wl L A c rb b6 J E vO (.slice none 0 0) (.slice none 0 0) ro [] [] O [] wr ∧ Hid ((E = 0 ∧ opnP L (n1 - i) J O = sec1 L) ∨ (E ≠ 0 ∧ T = (rpt0, (J : Int) + 1, E)))) (fun v10 _ => n1 - (intOf v10).toNat)
    case atStart => exact ⟨0, J0, E0, _, [], [], rfl, Nat.zero_le _, Nat.le_refl _, hP1, HS1⟩
    case round =>
      clear hP1 HS1
      obtain ⟨i, J, E, vO, ro, O, rfl, hi1, hro, hP, HS⟩ := hrel
      have r2 := hP.rd.bx.cell 2 rfl
      have rl := hP.rd.bx.lt
      by_cases ht : i < n1 ∧ E = 0
      · obtain ⟨hi, rfl⟩ := ht
        have hii : (i : Int) < (n1 : Int) := by omega
        have HR : Hid (opnP L ((n1 - (i + 1)) + 1) J O = sec1 L) := by
          rcases HS.out with ⟨_, h⟩ | ⟨h, _⟩
          · rw [show n1 - i = (n1 - (i + 1)) + 1 by omega] at h
            exact h
          · exact absurd rfl h
        clear HS
        go_wp2_with fail
        have hP1 := hP.mono (show Below wr.heap.size wr wr.drew by exact (by repeat (first | assumption | exact Below.refl _ _ | apply bw_alloc | apply bw_drew | apply bw_drewN | apply bw_later | apply bw_step)))
        refine wp_region_RC (S := fun w' => w'.cell? ⟨b6, 0, none⟩ = some vO) 6 (by kernel_rfl) (hP1.bx6.cell 0 rfl) (by kernel_rfl) ?_
        generalize World.drew wr = wd at *
        clear hP r2 rl
        have hsome : Nonempty (Held (fun w' : World => w'.cell? ⟨b6, 0, none⟩ = some vO)) := ⟨⟨wd, hP1.bx6.cell 0 rfl⟩⟩
        have q1 : ∀ x : Held (fun w' : World => w'.cell? ⟨b6, 0, none⟩ = some vO), x.W.cell? ⟨b6, 0, none⟩ = some vO := fun x => x.h
        refine RC.chunk (f := 3) [0, 1, 2] (by kernel_rfl) ?_
        ((simp only [pickOps, List.filterMap, List.getElem?_toArray, List.getElem?_cons_zero, List.getElem?_cons_succ]); (repeat (go_big_quiet_step (fail))); refine wpQuiet_nil ?_)
        clear q1
        refine RC.single 3 rfl (by kernel_rfl) (by omega) ?_
        intro K2 hK2
        go_wp2_with fail
        refine (refFinding_any _ hP1.rd hsl hLl hsm).mono ?_
        rintro e w3 ⟨⟨r, rfl, hrow⟩, hr3, hg3⟩
        have HRO := Lib.hid (opnP_round HR.out)
        generalize findP L J = F at *
        have hP2 := hP1.turn hr3 hg3 (fun _ => rfl)
        have HROW : Hid (F.2.1 = 0 → RowF wl.heap.size w3 r F.2.2) := fun h => (hrow h).base hP1.rd.bel.size
        go_wp2_with fail
        refine hK2 _ _ (hP2.bx6.cell 0 rfl) ?_
        clear hK2 hP1 hr3 hg3 hrow HR
        have hb3 : Below w3.heap.size w3 (w3.alloc (.cells (cellsRFnd r).toArray 46)) := by exact (by repeat (first | assumption | exact Below.refl _ _ | apply bw_alloc | apply bw_drew | apply bw_drewN | apply bw_later | apply bw_step))
        have hP3 := hP2.mono hb3
        have HROW3 : Hid (F.2.1 = 0 → RowF wl.heap.size (w3.alloc (.cells (cellsRFnd r).toArray 46)) r F.2.2) := fun h => (HROW.out h).map (fun k => k.mono hb3)
        have bx3 := Box.new w3 (cellsRFnd r) 46
        have hz3 : wl.heap.size ≤ (w3.alloc (.cells (cellsRFnd r).toArray 46)).heap.size := hP3.rd.bel.size
        refine RC.single 4 rfl (by kernel_rfl) (by omega) ?_
        intro K2 hK2
        go_wp2_with fail
        refine hK2 _ _ (hP3.bx6.cell 0 rfl) ?_
        clear hK2 hP2 HROW hb3
        change RC _ _ _ _ _ _ _ _ (w3.alloc (.cells (cellsRFnd r).toArray 46))
        generalize hW : w3.alloc _ = w4 at *
        clear hW
        refine RC.single 5 rfl (by kernel_rfl) (by omega) ?_
        intro K2 hK2
        refine wpList_pushG fndsTy cellsRFnd_ok rfl (.tmp 43) (.tmp 46) rfl wl.heap.size vO ro rfl hP3.oO r _ _ rfl (fun j u hu => bx3.cell j hu) (by unfold maxLen; omega) (by omega) hz3 ?_
        intro v' w5 ho4 hb4 hg4
        obtain ⟨A6, n6, c6, rfl⟩ := own_isSl ho4
        have hP5 := hP3.pushO ho4 hg4 HROW3.out (fun _ => rfl)
        have b4 := hP3.bx6.grown hg4 (hP3.oO.ne_box hP3.bx6 (by decide))
        go_wp2_with fail
        refine hK2 _ _ (b4.cell 0 rfl) ?_
        clear hK2 hsome hP3 HROW3 bx3 hz3 ho4 hb4 hg4
        have f0 := b4.cell 0 rfl
        have ff := b4.free 0
        have fl := b4.lt
        have hrl : (ro ++ [r]).length ≤ i + 1 := by rw [List.length_append]; simp; omega
        have HREL : Hid ((F.2.1 = 0 ∧ opnP L (n1 - (i + 1)) F.1 (O ++ [F.2.2]) = sec1 L) ∨ (F.2.1 ≠ 0 ∧ T = (rpt0, (F.1 : Int) + 1, F.2.1))) := by
          by_cases h : F.2.1 = 0
          · exact Or.inl ⟨h, HRO.out.1 h⟩
          · obtain ⟨h1, h2⟩ := HRO.out.2 h
            exact Or.inr ⟨h, par1_bad HTL.out h h1 h2⟩
        refine RC.tail (by kernel_rfl) ?_
        simp only [List.drop_succ_cons, List.drop_zero]
        clear HRO
        go_upto_region 9 with fail
        generalize World.setCell _ _ _ = w6 at *
        clear b4 f0 ff fl
        go_wp2_with fail
        go_roundw
        case rel => exact ⟨i + 1, F.1, F.2.1, _, _, _, by go_num, by omega, hrl, hP5, HREL⟩
        case measure => simp [intOf]; omega
      · have HX : Hid ((E = 0 ∧ sec1 L = (J, 0, O)) ∨ (E ≠ 0 ∧ T = (rpt0, (J : Int) + 1, E))) := by
          rcases HS.out with ⟨h1, h2⟩ | h
          · refine Or.inl ⟨h1, ?_⟩
            have hin : i = n1 := by
              rcases Nat.lt_or_ge i n1 with h | h
              · exact absurd ⟨h, h1⟩ ht
              · omega
            rw [hin, Nat.sub_self] at h2
            exact h2.symm
          · exact Or.inr h
        clear HS
        by_cases hi : i < n1
        · have hE0 : (E == 0) = false := by rw [beq_eq_false_iff_ne]; exact fun h => ht ⟨hi, h⟩
          have hii : (i : Int) < (n1 : Int) := by omega
          go_wp2_with fail
          go_meet
          exact ⟨J, E, vO, ro, O, by omega, hP, HX⟩
        · have hii : ¬ (i : Int) < (n1 : Int) := by omega
          go_wp2_with fail
          go_meet
          exact ⟨J, E, vO, ro, O, by omega, hP, HX⟩
  case rest =>
  clear hP1 HS1
  obtain ⟨J1, E1, vO, ro, O, hro, hP1, HX1⟩ := hcut
  go_wp2_with fail
  refine (refCount_all ⟨#[104, 105, 100, 100, 101, 110]⟩ _ hP1.rd hsl hLl hsm).mono ?_
  rintro e w3 ⟨J2, E2, n, rfl, hr3, hg3, hc1, hc2⟩
  have hP2 := hP1.turn hr3 hg3 (fun h => Classical.byContradiction fun h2 => by have := (hc2 h2).2.1; omega)
  obtain ⟨n2, rfl, hn2, HS2⟩ : ∃ n2 : Nat, n = n2 ∧ n2 ≤ 1000000 ∧ Hid ((E2 = 0 ∧ (∃ Jx, sec1 L = (Jx, 0, O)) ∧ hdnP L n2 J2 [] = sec2 L) ∨ (E2 ≠ 0 ∧ T = (rpt0, (J2 : Int) + 1, E2))) := by
    rcases HX1.out with ⟨h1, h2⟩ | ⟨h1, h2⟩
    · obtain ⟨n2, e1, e2, e3⟩ := par2 HTL.out h2 (hc1 h1)
      refine ⟨n2, e1, e2, ?_⟩
      rcases e3 with ⟨e3, e4⟩ | e3
      · exact Or.inl ⟨e3, ⟨_, h2⟩, e4⟩
      · exact Or.inr e3
    · obtain ⟨e1, e2, e3⟩ := hc2 h1
      exact ⟨0, e3, by omega, Or.inr ⟨by omega, by rw [e1, e2]; exact h2⟩⟩
  clear hP1 HX1 hr3 hg3 hc1 hc2
  go_upto_block 2 with fail
  go_cut [11] (fun v11 wx => ∃ (J : Nat) (E : Int) (vH : Value) (rh : List RHdn) (H : List Hdn), rh.length ≤ 1000000 ∧ PQ wl L A c rb b6 J E vO vH (.slice none 0 0) ro rh [] O H wx ∧ Hid ((E = 0 ∧ (∃ Jx, sec1 L = (Jx, 0, O)) ∧ sec2 L = (J, 0, H)) ∨ (E ≠ 0 ∧ T = (rpt0, (J : Int) + 1, E))))
  case first =>
    go_wp2_with fail
    go_loopw [11] (fun v11 wr => ∃ (i J : Nat) (E : Int) (vH : Value) (rh : List RHdn) (H : List Hdn), v11 = .int .i64 i ∧ i ≤ n2 ∧ rh.length ≤ i ∧ PQ wl L A c rb b6 J E vO vH (.slice none 0 0) ro rh [] O H wr ∧ Hid ((E = 0 ∧ (∃ Jx, sec1 L = (Jx, 0, O)) ∧ hdnP L (n2 - i) J H = sec2 L) ∨ (E ≠ 0 ∧ T = (rpt0, (J : Int) + 1, E)))) (fun v11 _ => n2 - (intOf v11).toNat)
    case atStart => exact ⟨0, J2, E2, _, [], [], rfl, Nat.zero_le _, Nat.le_refl _, hP2, HS2⟩
    case round =>
      clear hP2 HS2
      obtain ⟨i, J, E, vH, rh, H, rfl, hi1, hrh, hP, HS⟩ := hrel
      have r2 := hP.rd.bx.cell 2 rfl
      have rl := hP.rd.bx.lt
      by_cases ht : i < n2 ∧ E = 0
      · obtain ⟨hi, rfl⟩ := ht
        have hii : (i : Int) < (n2 : Int) := by omega
        have HR : Hid ((∃ Jx, sec1 L = (Jx, 0, O)) ∧ hdnP L ((n2 - (i + 1)) + 1) J H = sec2 L) := by
          rcases HS.out with ⟨_, h0, h⟩ | ⟨h, _⟩
          · rw [show n2 - i = (n2 - (i + 1)) + 1 by omega] at h
            exact ⟨h0, h⟩
          · exact absurd rfl h
        clear HS
        go_wp2_with fail
        refine (refCount_all ⟨#[110, 111, 116, 101]⟩ _ hP.rd hsl hLl hsm).mono ?_
        rintro e w3 ⟨Jn, En, k, rfl, hr3, hg3, hc1, -⟩
        have HC := Lib.hid (hc1 rfl)
        rw [show toL (⟨#[110, 111, 116, 101]⟩ : ByteArray) = wNote from rfl] at HC
        have hPa := hP.turn hr3 hg3 (fun _ => rfl)
        have hbh : Below w3.heap.size w3 (w3.alloc (.cells #[.int .i64 0, .string ⟨#[]⟩, .string ⟨#[]⟩, .int .i64 0, .string ⟨#[]⟩, .slice none 0 0, .int .i64 k] 48)) := by exact (by repeat (first | assumption | exact Below.refl _ _ | apply bw_alloc | apply bw_drew | apply bw_drewN | apply bw_later | apply bw_step))
        have hPb := hPa.mono hbh
        have bxh := Box.new w3 [.int .i64 0, .string ⟨#[]⟩, .string ⟨#[]⟩, .int .i64 0, .string ⟨#[]⟩, .slice none 0 0, .int .i64 k] 48
        have HO1 : Hid (vO.ownBlock ≠ some w3.heap.size ∧ vH.ownBlock ≠ some w3.heap.size) := ⟨fun e => by have := (World.ownsRow.lt hPa.oO _ e).2; omega, fun e => by have := (World.ownsRow.lt hPa.oH _ e).2; omega⟩
        have hlb3 : wl.heap.size ≤ w3.heap.size := hPa.rd.bel.size
        clear hP hPa hr3 hg3 hc1 hbh r2 rl
        go_upto_region 16 with fail
        generalize World.alloc w3 _ = w4 at *
        generalize w3.heap.size = bh at *
        go_wp2_with fail
        refine (refFinding_all _ hPb.rd hsl hLl hsm).mono ?_
        rintro e w5 ⟨F, ⟨r, rfl, hrow⟩, hr5, hg5, hF1, hF2⟩
        have HD := Lib.hid (hdn1Q HC.out hF1 hF2)
        have hEn : F.2.1 = 0 → En = 0 := fun h => Classical.byContradiction fun h2 => by rw [hF2 h2] at h; exact h2 h
        have hPc := hPb.turn hr5 hg5 hEn
        have bh5 := bxh.grown hg5 (fun e => ne_of_types bxh hPb.rd.bx (by decide) (by injection e))
        have HROW : Hid (F.2.1 = 0 → RowF wl.heap.size w5 r F.2.2) := fun h => (hrow h).base hPb.rd.bel.size
        have HRO := Lib.hid (hdnP_round HR.out.2)
        have HR0 := Lib.hid HR.out.1
        clear hPb bxh hr5 hg5 hF1 hF2 hEn hrow HC HR
        obtain ⟨bh6, hg6⟩ := store6H bh5 (.int .i64 r.kind) (.string r.plc.cls) (.string r.plc.mth) (.int .i64 r.plc.ins) (.string r.what) (.slice r.A r.n r.c)
        have hPd := hPc.other bh5 (by decide) (by decide) (by decide) HO1.out.1 HO1.out.2 (by simp [Value.ownBlock]) hg6 hlb3
        have HROW4 : Hid (F.2.1 = 0 → RowF wl.heap.size _ r F.2.2) := fun h => (HROW.out h).map (fun q => q.kept_box bh5 (by decide) hg6)
        have c0 := bh5.cell 0 rfl
        have c1 := bh5.cell 1 rfl
        have c2 := bh5.cell 2 rfl
        have c3 := bh5.cell 3 rfl
        have c4 := bh5.cell 4 rfl
        have c5 := bh5.cell 5 rfl
        have cf := fun i => bh5.free i
        have cl := bh5.lt
        go_upto_region 17 with fail
        generalize World.setCell _ _ _ = w6 at *
        clear hPc bh5 c0 c1 c2 c3 c4 c5 cf cl hg6 HROW HO1
        have c0 := bh6.cell 0 rfl
        have c1 := bh6.cell 1 rfl
        have c2 := bh6.cell 2 rfl
        have c3 := bh6.cell 3 rfl
        have c4 := bh6.cell 4 rfl
        have c5 := bh6.cell 5 rfl
        have c6 := bh6.cell 6 rfl
        have cl := bh6.lt
        have v1 := hPd.bx6.cell 1 rfl
        have vl := hPd.bx6.lt
        have hb5 : Below w6.heap.size w6 (w6.alloc (.cells (cellsRHdn ⟨r, k⟩).toArray 48)) := by exact (by repeat (first | assumption | exact Below.refl _ _ | apply bw_alloc | apply bw_drew | apply bw_drewN | apply bw_later | apply bw_step))
        have hPe := hPd.mono hb5
        have HROW5 : Hid (F.2.1 = 0 → RowF wl.heap.size (w6.alloc (.cells (cellsRHdn ⟨r, k⟩).toArray 48)) r F.2.2) := fun h => (HROW4.out h).map (fun q => q.mono hb5)
        have bx5 := Box.new w6 (cellsRHdn ⟨r, k⟩) 48
        have hz5 : wl.heap.size ≤ (w6.alloc (.cells (cellsRHdn ⟨r, k⟩).toArray 48)).heap.size := hPe.rd.bel.size
        clear HROW4 hb5
        have HREL : Hid ((F.2.1 = 0 ∧ (∃ Jx, sec1 L = (Jx, 0, O)) ∧ hdnP L (n2 - (i + 1)) F.1 (H ++ [⟨F.2.2, k⟩]) = sec2 L) ∨ (F.2.1 ≠ 0 ∧ T = (rpt0, (F.1 : Int) + 1, F.2.1))) := by
          obtain ⟨d1, d2, d3⟩ := HD.out
          by_cases h : F.2.1 = 0
          · refine Or.inl ⟨h, HR0.out, ?_⟩
            have := HRO.out.1 (by rw [d2]; exact h)
            rwa [d1, d3 h] at this
          · obtain ⟨h1, h2⟩ := HRO.out.2 (by rw [d2]; exact h)
            obtain ⟨Jx, h0⟩ := HR0.out
            exact Or.inr ⟨h, par2_bad HTL.out h0 h (by rw [h1, d1]) (by rw [h2, d2])⟩
        clear HRO HR0 HD
        go_upto_region 14 with (at_builtin; refine wpList_pushG hdnsTy cellsRHdn_ok rfl (.tmp 70) (.tmp 72) rfl wl.heap.size vH rh rfl hPe.oH (⟨r, k⟩ : RHdn) _ _ rfl (fun j u hu => bx5.cell j hu) (by unfold maxLen; omega) (by omega) hz5 ?_; intro v' w7 ho6 hb6 hg6; obtain ⟨A6, n6, c7, rfl⟩ := own_isSl ho6; have b4 := hPe.bx6.grown hg6 (hPe.oH.ne_box hPe.bx6 (by decide)); have f0 := b4.cell 1 rfl; have ff := b4.free 1; have fl := b4.lt)
        have hP6 := hPe.pushH (x := ⟨F.2.2, k⟩) (H2 := H ++ [⟨F.2.2, k⟩]) ho6 hg6 (fun h => ⟨HROW5.out h, rfl⟩) (fun _ => rfl)
        have hrl : (rh ++ [(⟨r, k⟩ : RHdn)]).length ≤ i + 1 := by rw [List.length_append]; simp; omega
        generalize World.setCell _ _ _ = w8 at *
        clear hPd hPe HROW5 bx5 hz5 ho6 hb6 hg6 b4 f0 ff fl bh6 c0 c1 c2 c3 c4 c5 c6 cl v1 vl
        go_wp2_with fail
        go_roundw
        case rel => exact ⟨i + 1, F.1, F.2.1, _, _, _, by go_num, by omega, hrl, hP6, HREL⟩
        case measure => simp [intOf]; omega
      · have HX : Hid ((E = 0 ∧ (∃ Jx, sec1 L = (Jx, 0, O)) ∧ sec2 L = (J, 0, H)) ∨ (E ≠ 0 ∧ T = (rpt0, (J : Int) + 1, E))) := by
          rcases HS.out with ⟨h1, h0, h2⟩ | h
          · refine Or.inl ⟨h1, h0, ?_⟩
            have hin : i = n2 := by
              rcases Nat.lt_or_ge i n2 with h | h
              · exact absurd ⟨h, h1⟩ ht
              · omega
            rw [hin, Nat.sub_self] at h2
            exact h2.symm
          · exact Or.inr h
        clear HS
        by_cases hi : i < n2
        · have hE0 : (E == 0) = false := by rw [beq_eq_false_iff_ne]; exact fun h => ht ⟨hi, h⟩
          have hii : (i : Int) < (n2 : Int) := by omega
          go_wp2_with fail
          go_meet
          exact ⟨J, E, vH, rh, H, by omega, hP, HX⟩
        · have hii : ¬ (i : Int) < (n2 : Int) := by omega
          go_wp2_with fail
          go_meet
          exact ⟨J, E, vH, rh, H, by omega, hP, HX⟩
  case rest =>
  clear hP2 HS2
  obtain ⟨J3, E3, vH, rh, H, hrh, hP3, HX3⟩ := hcut
  go_wp2_with fail
  refine (refCount_all ⟨#[117, 110, 117, 115, 101, 100]⟩ _ hP3.rd hsl hLl hsm).mono ?_
  rintro e w4 ⟨J4, E4, n, rfl, hr4, hg4, hc1, hc2⟩
  have hP4 := hP3.turn hr4 hg4 (fun h => Classical.byContradiction fun h2 => by have := (hc2 h2).2.1; omega)
  obtain ⟨n3, rfl, hn3, HS4⟩ : ∃ n3 : Nat, n = n3 ∧ n3 ≤ 1000000 ∧ Hid ((E4 = 0 ∧ (∃ Jx, sec1 L = (Jx, 0, O)) ∧ (∃ Jx, sec2 L = (Jx, 0, H)) ∧ unsP L n3 J4 [] = sec3 L) ∨ (E4 ≠ 0 ∧ T = (rpt0, (J4 : Int) + 1, E4))) := by
    rcases HX3.out with ⟨h1, ⟨Jx, h0⟩, h2⟩ | ⟨h1, h2⟩
    · obtain ⟨n2, e1, e2, e3⟩ := par3 HTL.out h0 h2 (hc1 h1)
      refine ⟨n2, e1, e2, ?_⟩
      rcases e3 with ⟨e3, e4⟩ | e3
      · exact Or.inl ⟨e3, ⟨_, h0⟩, ⟨_, h2⟩, e4⟩
      · exact Or.inr e3
    · obtain ⟨e1, e2, e3⟩ := hc2 h1
      exact ⟨0, e3, by omega, Or.inr ⟨by omega, by rw [e1, e2]; exact h2⟩⟩
  clear hP3 HX3 hr4 hg4 hc1 hc2
  go_upto_block 4 with fail
  go_cut [13] (fun v13 wx => ∃ (J : Nat) (E : Int) (vU : Value) (U : List Int), PQ wl L A c rb b6 J E vO vH vU ro rh U O H wx ∧ Hid ((E = 0 ∧ (∃ Jx, sec1 L = (Jx, 0, O)) ∧ (∃ Jx, sec2 L = (Jx, 0, H)) ∧ sec3 L = (J, 0, U)) ∨ (E ≠ 0 ∧ T = (rpt0, (J : Int) + 1, E))))
  case first =>
    go_wp2_with fail
    go_loopw [13] (fun v13 wr => ∃ (i J : Nat) (E : Int) (vU : Value) (U : List Int), v13 = .int .i64 i ∧ i ≤ n3 ∧ U.length ≤ i ∧ PQ wl L A c rb b6 J E vO vH vU ro rh U O H wr ∧ Hid ((E = 0 ∧ (∃ Jx, sec1 L = (Jx, 0, O)) ∧ (∃ Jx, sec2 L = (Jx, 0, H)) ∧ unsP L (n3 - i) J U = sec3 L) ∨ (E ≠ 0 ∧ T = (rpt0, (J : Int) + 1, E)))) (fun v13 _ => n3 - (intOf v13).toNat)
    case atStart => exact ⟨0, J4, E4, _, [], rfl, Nat.zero_le _, Nat.le_refl _, hP4, HS4⟩
    case round =>
      clear hP4 HS4
      obtain ⟨i, J, E, vU, U, rfl, hi1, hul, hP, HS⟩ := hrel
      have r2 := hP.rd.bx.cell 2 rfl
      have rl := hP.rd.bx.lt
      by_cases ht : i < n3 ∧ E = 0
      · obtain ⟨hi, rfl⟩ := ht
        have hii : (i : Int) < (n3 : Int) := by omega
        have HR : Hid ((∃ Jx, sec1 L = (Jx, 0, O)) ∧ (∃ Jx, sec2 L = (Jx, 0, H)) ∧ unsP L ((n3 - (i + 1)) + 1) J U = sec3 L) := by
          rcases HS.out with ⟨_, h0, h00, h⟩ | ⟨h, _⟩
          · rw [show n3 - i = (n3 - (i + 1)) + 1 by omega] at h
            exact ⟨h0, h00, h⟩
          · exact absurd rfl h
        clear HS
        go_wp2_with fail
        have hPx := hP.mono (show Below wr.heap.size wr wr.drew by exact (by repeat (first | assumption | exact Below.refl _ _ | apply bw_alloc | apply bw_drew | apply bw_drewN | apply bw_later | apply bw_step)))
        refine wp_region_RC (S := fun w' => w'.cell? ⟨b6, 2, none⟩ = some vU) 6 (by kernel_rfl) (hPx.bx6.cell 2 rfl) (by kernel_rfl) ?_
        generalize World.drew wr = wd at *
        clear hP r2 rl
        have hsome : Nonempty (Held (fun w' : World => w'.cell? ⟨b6, 2, none⟩ = some vU)) := ⟨⟨wd, hPx.bx6.cell 2 rfl⟩⟩
        have q1 : ∀ x : Held (fun w' : World => w'.cell? ⟨b6, 2, none⟩ = some vU), x.W.cell? ⟨b6, 2, none⟩ = some vU := fun x => x.h
        refine RC.chunk (f := 3) [0, 1, 2] (by kernel_rfl) ?_
        ((simp only [pickOps, List.filterMap, List.getElem?_toArray, List.getElem?_cons_zero, List.getElem?_cons_succ]); (repeat (go_big_quiet_step (fail))); refine wpQuiet_nil ?_)
        clear q1
        refine RC.single 3 rfl (by kernel_rfl) (by omega) ?_
        intro K2 hK2
        go_wp2_with fail
        refine (refCount_all ⟨#[105, 110, 100, 101, 120]⟩ _ hPx.rd hsl hLl hsm).mono ?_
        rintro e w3 ⟨Jn, En, k, rfl, hr3, hg3, hc1, -⟩
        have HC := Lib.hid (hc1 rfl)
        rw [show toL (⟨#[105, 110, 100, 101, 120]⟩ : ByteArray) = wIdx from rfl] at HC
        have hPy := hPx.turn hr3 hg3 (fun _ => rfl)
        go_wp2_with fail
        refine hK2 _ _ (hPy.bx6.cell 2 rfl) ?_
        clear hK2 hPx hr3 hg3 hc1
        have hb3 : Below w3.heap.size w3 (w3.alloc (.cells #[.int .i64 k] 3)) := by exact (by repeat (first | assumption | exact Below.refl _ _ | apply bw_alloc | apply bw_drew | apply bw_drewN | apply bw_later | apply bw_step))
        have hPz := hPy.mono hb3
        have bx3 := Box.new w3 [.int .i64 k] 3
        have hz3 : wl.heap.size ≤ (w3.alloc (.cells #[.int .i64 k] 3)).heap.size := hPz.rd.bel.size
        refine RC.single 4 rfl (by kernel_rfl) (by omega) ?_
        intro K2 hK2
        go_wp2_with fail
        refine hK2 _ _ (hPz.bx6.cell 2 rfl) ?_
        clear hK2 hPy hb3
        generalize hW : w3.alloc _ = w4 at *
        clear hW
        refine RC.single 5 rfl (by kernel_rfl) (by omega) ?_
        intro K2 hK2
        refine wpList_pushG intsTy cellsInt_ok rfl (.tmp 90) (.tmp 93) rfl wl.heap.size vU U rfl hPz.oU k _ _ rfl (fun j u hu => bx3.cell j hu) (by unfold maxLen; omega) (by omega) hz3 ?_
        intro v' w5 ho4 hb4 hg4
        obtain ⟨A6, n6, c6, rfl⟩ := own_isSl ho4
        have hP5 := hPz.pushU ho4 hg4
        have b4 := hPz.bx6.grown hg4 (hPz.oU.ne_box hPz.bx6 (by decide))
        go_wp2_with fail
        refine hK2 _ _ (b4.cell 2 rfl) ?_
        clear hK2 hsome hPz bx3 hz3 ho4 hb4 hg4
        have f0 := b4.cell 2 rfl
        have ff := b4.free 2
        have fl := b4.lt
        have hrl : (U ++ [k]).length ≤ i + 1 := by rw [List.length_append]; simp; omega
        have HREL : Hid ((En = 0 ∧ (∃ Jx, sec1 L = (Jx, 0, O)) ∧ (∃ Jx, sec2 L = (Jx, 0, H)) ∧ unsP L (n3 - (i + 1)) Jn (U ++ [k]) = sec3 L) ∨ (En ≠ 0 ∧ T = (rpt0, (Jn : Int) + 1, En))) := by
          obtain ⟨⟨Jx, h0⟩, ⟨Jy, h00⟩, h⟩ := HR.out
          have hr := unsP_round h
          rw [HC.out] at hr
          by_cases h : En = 0
          · exact Or.inl ⟨h, ⟨_, h0⟩, ⟨_, h00⟩, hr.1 h⟩
          · obtain ⟨h1, h2⟩ := hr.2 h
            exact Or.inr ⟨h, par3_bad HTL.out h0 h00 h h1 h2⟩
        refine RC.tail (by kernel_rfl) ?_
        simp only [List.drop_succ_cons, List.drop_zero]
        clear HR HC
        go_upto_region 21 with fail
        generalize World.setCell _ _ _ = w6 at *
        clear b4 f0 ff fl
        go_wp2_with fail
        go_roundw
        case rel => exact ⟨i + 1, Jn, En, _, _, by go_num, by omega, hrl, hP5, HREL⟩
        case measure => simp [intOf]; omega
      · have HX : Hid ((E = 0 ∧ (∃ Jx, sec1 L = (Jx, 0, O)) ∧ (∃ Jx, sec2 L = (Jx, 0, H)) ∧ sec3 L = (J, 0, U)) ∨ (E ≠ 0 ∧ T = (rpt0, (J : Int) + 1, E))) := by
          rcases HS.out with ⟨h1, h0, h00, h2⟩ | h
          · refine Or.inl ⟨h1, h0, h00, ?_⟩
            have hin : i = n3 := by
              rcases Nat.lt_or_ge i n3 with h | h
              · exact absurd ⟨h, h1⟩ ht
              · omega
            rw [hin, Nat.sub_self] at h2
            exact h2.symm
          · exact Or.inr h
        clear HS
        by_cases hi : i < n3
        · have hE0 : (E == 0) = false := by rw [beq_eq_false_iff_ne]; exact fun h => ht ⟨hi, h⟩
          have hii : (i : Int) < (n3 : Int) := by omega
          go_wp2_with fail
          go_meet
          exact ⟨J, E, vU, U, hP, HX⟩
        · have hii : ¬ (i : Int) < (n3 : Int) := by omega
          go_wp2_with fail
          go_meet
          exact ⟨J, E, vU, U, hP, HX⟩
  case rest =>
  clear hP4 HS4
  obtain ⟨J, E, vU, U, hP, HX⟩ := hcut
  obtain ⟨wz, hwz⟩ : ∃ wz, wz = wc := ⟨_, rfl⟩
  rw [← hwz] at hP ⊢
  clear hwz wc
  have hx2 := x2l.mono hP.rd.bel
  have hbz := below_step hbwl hP.rd.bel
  have hJl := hP.rd.le
  have hJi : (J : Int) ≤ 2000000 := by omega
  have hne1 : ¬ rb = w.heap.size := by have := hP.rd.lb; omega
  have hne2 : ¬ w.heap.size = rb := fun e => hne1 e.symm
  have hwr : IntKind.i64.wrap ((J : Int) + 1) = (J : Int) + 1 := by rw [IntKind.wrap_i64]; omega
  have r0 := hP.rd.bx.cell 0 rfl
  have r1 := hP.rd.bx.cell 1 rfl
  have r2 := hP.rd.bx.cell 2 rfl
  have rl := hP.rd.bx.lt
  rcases HX.out with ⟨rfl, ⟨Jx, hs1⟩, ⟨Jy, hs2⟩, hs3⟩ | ⟨hE, hT⟩
  · have HT4 := Lib.hid (par4 HTL.out hs1 hs2 hs3)
    rw [hs1, hs2, hs3] at HOK
    clear HX hs1 hs2 hs3 HTL
    by_cases hend : J < L.length ∨ more = true
    · have HTE : Hid (T = (rpt0, (J : Int) + 1, 2)) := by show _ = _; rw [HT4.out, if_pos hend]
      have HFINE : Hid (∀ W, Below wz.heap.size wz W → ∀ W3, Box W3 w.heap.size [.slice none 0 0, .slice none 0 0, .slice none 0 0] 26 → W.grownBy W3 (some w.heap.size) → RetP T W3 (.returned (.tuple #[.agg #[.slice none 0 0, .slice none 0 0, .slice none 0 0], .int .i64 ((J : Int) + 1), .int .i64 2])) ∧ Below w.heap.size w W3) := fun W hW W3 h1 h2 => ⟨by rw [HTE.out]; exact RetP.zero _ _ _, below_own (below_step hbz hW) h2 (Nat.le_refl _)⟩
      clear HT4 HOK hcA hsl hsm
      by_cases h1 : J < L.length
      · have h1' : (J : Int) < (L.length : Int) := by omega
        clear hend
        go_wp2_with fail
        refine wp_region_later (by kernel_rfl) (by kernel_rfl) ?_
        repeat (go_big_quiet_step (fail))
        refine wpQuiet_nil ?_
        rintro _ ⟨z, rfl⟩
        have bz := hP.rd.bx.mono z.h
        have hx3 := hx2.mono z.h
        have HFI := Lib.hid (HFINE.out _ z.h)
        clear r0 r1 r2 rl hx2 HFINE hP
        have r1 := bz.cell 1 rfl
        have rl := bz.lt
        go_wp2_with fail
        have d0 := hx3.cell 0 rfl
        have d1 := hx3.cell 1 rfl
        have d2 := hx3.cell 2 rfl
        have df := fun i => hx3.free i
        have dl := hx3.lt
        go_region_held3 (fun w' => w'.cell? ⟨rb, 1, none⟩ = some (.int .i64 (J : Int))) (go_keep) (fail)
        obtain ⟨bxF, hgF⟩ := store3R hx3 (.slice none 0 0) (.slice none 0 0) (.slice none 0 0)
        have HF := Lib.hid (HFI.out _ bxF hgF)
        clear bz hx3 r1 rl hgF
        go_wp2_with fail
        generalize World.setCell _ _ _ = W3 at *
        have z0 := bxF.cell 0 rfl
        have z1 := bxF.cell 1 rfl
        have z2 := bxF.cell 2 rfl
        refine bodyPost_ret (v := .tuple #[.agg #[.slice none 0 0, .slice none 0 0, .slice none 0 0], .int .i64 ((J : Int) + 1), .int .i64 2]) (by simp [results, Tryz.results17, go_sem, z0, z1, z2]) rfl ⟨HF.out.1, HF.out.2.drew⟩
      · have h1' : ¬ (J : Int) < (L.length : Int) := by omega
        have hm : more = true := by
          rcases hend with h | h
          · exact absurd h h1
          · exact h
        subst hm
        clear hend
        go_wp2_with fail
        refine wp_region_later (by kernel_rfl) (by kernel_rfl) ?_
        repeat (go_big_quiet_step (fail))
        refine wpQuiet_nil ?_
        rintro _ ⟨z, rfl⟩
        have bz := hP.rd.bx.mono z.h
        have hx3 := hx2.mono z.h
        have HFI := Lib.hid (HFINE.out _ z.h)
        clear r0 r1 r2 rl hx2 HFINE hP
        have r1 := bz.cell 1 rfl
        have rl := bz.lt
        go_wp2_with fail
        have d0 := hx3.cell 0 rfl
        have d1 := hx3.cell 1 rfl
        have d2 := hx3.cell 2 rfl
        have df := fun i => hx3.free i
        have dl := hx3.lt
        go_region_held3 (fun w' => w'.cell? ⟨rb, 1, none⟩ = some (.int .i64 (J : Int))) (go_keep) (fail)
        obtain ⟨bxF, hgF⟩ := store3R hx3 (.slice none 0 0) (.slice none 0 0) (.slice none 0 0)
        have HF := Lib.hid (HFI.out _ bxF hgF)
        clear bz hx3 r1 rl hgF
        go_wp2_with fail
        generalize World.setCell _ _ _ = W3 at *
        have z0 := bxF.cell 0 rfl
        have z1 := bxF.cell 1 rfl
        have z2 := bxF.cell 2 rfl
        refine bodyPost_ret (v := .tuple #[.agg #[.slice none 0 0, .slice none 0 0, .slice none 0 0], .int .i64 ((J : Int) + 1), .int .i64 2]) (by simp [results, Tryz.results17, go_sem, z0, z1, z2]) rfl ⟨HF.out.1, HF.out.2.drew⟩
    · have HT3 : Hid (T = if rptE ⟨O, H, U⟩ ≠ 0 then (rpt0, 0, rptE ⟨O, H, U⟩) else (⟨O, H, U⟩, 0, 0)) := by show _ = _; rw [HT4.out, if_neg hend]
      have hm : more = false := by
        cases more with
        | false => rfl
        | true => exact absurd (Or.inr rfl) hend
      have h1' : ¬ (J : Int) < (L.length : Int) := fun h => hend (Or.inl (by omega))
      have h1n : ¬ J < L.length := fun h => hend (Or.inl h)
      subst hm
      obtain ⟨⟨A0, c0, rfl, hc0, hs0⟩, ⟨A1, c1, rfl, hc1, hs1⟩, ⟨A2, c2, rfl, hc2, hs2'⟩⟩ := hP.forms
      have HCK := Lib.hid (fun W h => refRptCheck_any ⟨O, H, U⟩ A0 A1 A2 c0 c1 c2 W HOK (hs0.mono h) (hs1.mono h) (hs2'.mono h))
      simp only at HCK
      obtain ⟨q, HQ⟩ : ∃ q, Hid (q = rptE ⟨O, H, U⟩) := ⟨_, Lib.hid rfl⟩
      rw [← HQ.out] at HCK HT3
      clear hend HT4 HOK hs0 hs1 hs2' HQ hcA hsl hsm
      go_wp2_with fail
      refine wp_region_later (by kernel_rfl) (by kernel_rfl) ?_
      repeat (go_big_quiet_step (fail))
      refine wpQuiet_nil ?_
      rintro _ ⟨z, rfl⟩
      have hP3 := hP.mono z.h
      have HC2 := Lib.hid (HCK.out _ z.h)
      clear r0 r1 r2 rl hx2 hbz hP HCK
      generalize z.W = w3 at *
      have b0 := hP3.bx6.cell 0 rfl
      have b1 := hP3.bx6.cell 1 rfl
      have b2 := hP3.bx6.cell 2 rfl
      have bl := hP3.bx6.lt
      go_wp2_with fail
      refine HC2.out.mono ?_
      rintro e w4 ⟨rfl, hb4⟩
      have hP4 := hP3.mono hb4
      have hx2 := x2l.mono hP4.rd.bel
      have hbz := below_step hbwl hP4.rd.bel
      clear hP3 b0 b1 b2 bl HC2 hb4
      have d0 := hx2.cell 0 rfl
      have d1 := hx2.cell 1 rfl
      have d2 := hx2.cell 2 rfl
      have df := fun i => hx2.free i
      have dl := hx2.lt
      by_cases hq : q = 0
      · have HT5 : Hid (T = (⟨O, H, U⟩, 0, 0)) := by show _ = _; rw [HT3.out, if_neg (by simp [hq])]
        have tq : (q != 0) = false := by simp [hq]
        clear hq HT3
        obtain ⟨bxF, hgF⟩ := store3R hx2 (.slice A0 O.length c0) (.slice A1 H.length c1) (.slice A2 U.length c2)
        have hbF := below_own hbz hgF (Nat.le_refl _)
        obtain ⟨s0, s1, s2⟩ := hP4.out hzl hgF
        have b0 := hP4.bx6.cell 0 rfl
        have b1 := hP4.bx6.cell 1 rfl
        have b2 := hP4.bx6.cell 2 rfl
        have bl := hP4.bx6.lt
        clear hP4 hgF hx2
        go_wp2_with fail
        generalize World.setCell _ _ _ = W3 at *
        have z0 := bxF.cell 0 rfl
        have z1 := bxF.cell 1 rfl
        have z2 := bxF.cell 2 rfl
        refine bodyPost_ret (v := .tuple #[.agg #[.slice A0 O.length c0, .slice A1 H.length c1, .slice A2 U.length c2], .int .i64 0, .int .i64 0]) (by simp [results, Tryz.results17, go_sem, z0, z1, z2]) rfl ⟨by rw [HT5.out]; exact ⟨A0, c0, A1, c1, A2, c2, rfl, hc0, hc1, hc2, s0, s1, s2⟩, hbF⟩
      · have HT5 : Hid (T = (rpt0, 0, q)) := by show _ = _; rw [HT3.out, if_pos hq]
        have tq : (q != 0) = true := by simp [hq]
        clear hq HT3
        obtain ⟨bxF, hgF⟩ := store3R hx2 (.slice none 0 0) (.slice none 0 0) (.slice none 0 0)
        have hbF := below_own hbz hgF (Nat.le_refl _)
        clear hP4 hgF hx2
        go_wp2_with fail
        generalize World.setCell _ _ _ = W3 at *
        have z0 := bxF.cell 0 rfl
        have z1 := bxF.cell 1 rfl
        have z2 := bxF.cell 2 rfl
        refine bodyPost_ret (v := .tuple #[.agg #[.slice none 0 0, .slice none 0 0, .slice none 0 0], .int .i64 0, .int .i64 q]) (by simp [results, Tryz.results17, go_sem, z0, z1, z2]) rfl ⟨by rw [HT5.out]; exact RetP.zero _ _ _, hbF⟩
  · have HTE := Lib.hid hT
    have tE : (E == 0) = false := by rw [beq_eq_false_iff_ne]; exact hE
    have tE2 : (E != 0) = true := by rw [bne_iff_ne]; exact hE
    clear hT hE HX HOK HTL hcA hsl hsm
    go_wp2_with fail
    have d0 := hx2.cell 0 rfl
    have d1 := hx2.cell 1 rfl
    have d2 := hx2.cell 2 rfl
    have df := fun i => hx2.free i
    have dl := hx2.lt
    go_region_held3 (fun w' => w'.cell? ⟨rb, 1, none⟩ = some (.int .i64 (J : Int)) ∧ w'.cell? ⟨rb, 2, none⟩ = some (.int .i64 E)) (go_keep) (fail)
    obtain ⟨bxF, hgF⟩ := store3R hx2 (.slice none 0 0) (.slice none 0 0) (.slice none 0 0)
    have hbF := below_own hbz hgF (Nat.le_refl _)
    clear hP r0 r1 r2 rl hgF hx2
    go_wp2_with fail
    generalize World.setCell _ _ _ = W3 at *
    have z0 := bxF.cell 0 rfl
    have z1 := bxF.cell 1 rfl
    have z2 := bxF.cell 2 rfl
    refine bodyPost_ret (v := .tuple #[.agg #[.slice none 0 0, .slice none 0 0, .slice none 0 0], .int .i64 ((J : Int) + 1), .int .i64 E]) (by simp [results, Tryz.results17, go_sem, z0, z1, z2]) rfl ⟨by rw [HTE.out]; exact RetP.zero _ _ _, hbF.drew⟩
end Go.Proofs.YtlcdnkloijehjaaGreatDoor

namespace Go.Proofs.YtlcdnkloijehjaaGreatDoor
open Go.RowKit
set_option linter.unusedVariables false

set_option maxHeartbeats 4000000 in
set_option maxRecDepth 100000 in
theorem sameF_any (l : List Fnd) (A B : Option Addr) (c d : Nat) (w : World) (hl : l.length ≤ 9223372036854775806) (hok : Hid (∀ x ∈ l, OkFnd x)) (ha : Sl Lay.fnd w A l) (hb : Sl Lay.fnd w B l) :
    Calls Tryz.prog 50 #[.slice A l.length c, .slice B l.length d] w fun e w' => e = .returned (.bool true) ∧ Below w.heap.size w w' := by
  go_enter Tryz.func50, Tryz.ntmps50
  go_wp2_with fail
  go_loopw [5] (fun i wr => ∃ k : Nat, k ≤ l.length ∧ i = .int .i64 k ∧ Below w.heap.size w wr) (fun i _ => l.length - (intOf i).toNat)
  case atStart => exact ⟨0, Nat.zero_le _, rfl, Below.refl _ _⟩
  case round =>
    obtain ⟨k, hk, rfl, hbw⟩ := hrel
    by_cases hlt : k < l.length
    · obtain ⟨b, o, A3, c3, rfl, h1, d0, d1, d2, d3, d4, d5, hc3, hs3⟩ := (ha.mono hbw).fnd_at hlt
      obtain ⟨b', o', B3, e3, rfl, h2, f0, f1, f2, f3, f4, f5, hc4, hs4⟩ := (hb.mono hbw).fnd_at hlt
      have HC : Hid (∀ W, Below wr.heap.size wr W → Calls Tryz.prog 28 #[.agg #[.int .i64 l[k].kind, .string l[k].plc.cls, .string l[k].plc.mth, .int .i64 l[k].plc.ins, .string l[k].what, .slice A3 l[k].path.length c3], .agg #[.int .i64 l[k].kind, .string l[k].plc.cls, .string l[k].plc.mth, .int .i64 l[k].plc.ins, .string l[k].what, .slice B3 l[k].path.length e3]] W fun e w' => e = .returned (.int .i64 0) ∧ Below W.heap.size W w') := fun W h => by
        have := cmpF_ref l[k] l[k] A3 B3 c3 e3 W (hok.out _ (List.getElem_mem hlt)).2.2.1 (hok.out _ (List.getElem_mem hlt)).2.2.1 (hs3.mono h) (hs4.mono h)
        rwa [ord_cmpF.self] at this
      go_wp2_with fail
      refine wp_region_later (by kernel_rfl) (by kernel_rfl) ?_
      repeat (go_big_quiet_step ((go_at_call 28; exact Calls.later (HC.out _ (by exact (by repeat (first | assumption | exact Below.refl _ _ | apply bw_alloc | apply bw_drew | apply bw_drewN | apply bw_later | apply bw_step)))))))
      refine wpQuiet_nil ?_
      rintro _ ⟨z, rfl⟩
      have hbw2 := below_step hbw z.h
      go_wp2_with fail
      go_roundw
      case rel => exact ⟨k + 1, by omega, by go_num, hbw2⟩
      case measure => simp [intOf]; omega
    · go_wp2_with fail
      go_ret
      exact ⟨rfl, hbw⟩
set_option maxHeartbeats 8000000 in
set_option maxRecDepth 100000 in
theorem sameRpt_any (r : Rpt) (A0 A1 A2 B0 B1 B2 : Option Addr) (c0 c1 c2 d0 d1 d2 : Nat) (w : World) (hok : Hid (OkRpt r)) (hlo : r.opn.length ≤ 9223372036854775806) (hl1 : r.hdn.length ≤ 9223372036854775806) (hl2 : r.uns.length ≤ 9223372036854775806) (ha0 : Sl Lay.fnd w A0 r.opn) (ha1 : Sl Lay.hdn w A1 r.hdn) (ha2 : Sl Lay.int w A2 r.uns) (hb0 : Sl Lay.fnd w B0 r.opn) (hb1 : Sl Lay.hdn w B1 r.hdn) (hb2 : Sl Lay.int w B2 r.uns) :
    Calls Tryz.prog 16 #[.agg #[.slice A0 r.opn.length c0, .slice A1 r.hdn.length c1, .slice A2 r.uns.length c2], .agg #[.slice B0 r.opn.length d0, .slice B1 r.hdn.length d1, .slice B2 r.uns.length d2]] w fun e w' => e = .returned (.bool true) ∧ Below w.heap.size w w' := by
  obtain ⟨O, H, U⟩ := r
  have hoO : Hid (∀ x ∈ O, OkFnd x) := hok.out.opn
  have hoH : Hid (∀ x ∈ H, OkFnd x.f) := hok.out.hdn
  simp only at hlo hl1 hl2 ha0 ha1 ha2 hb0 hb1 hb2 ⊢
  clear hok
  have bx1 : Box ((w.alloc (.cells #[.slice A0 O.length c0, .slice A1 H.length c1, .slice A2 U.length c2] 26)).alloc (.cells #[.slice B0 O.length d0, .slice B1 H.length d1, .slice B2 U.length d2] 26)) w.heap.size [.slice A0 O.length c0, .slice A1 H.length c1, .slice A2 U.length c2] 26 := (by repeat (first | (refine Box.at ?_; (simp; done)) | apply Box.drew | apply Box.alloc | assumption))
  have by1 : Box ((w.alloc (.cells #[.slice A0 O.length c0, .slice A1 H.length c1, .slice A2 U.length c2] 26)).alloc (.cells #[.slice B0 O.length d0, .slice B1 H.length d1, .slice B2 U.length d2] 26)) (w.heap.size + 1) [.slice B0 O.length d0, .slice B1 H.length d1, .slice B2 U.length d2] 26 := (by repeat (first | (refine Box.at ?_; (simp; done)) | apply Box.drew | apply Box.alloc | assumption))
  have hbw1 : Below w.heap.size w ((w.alloc (.cells #[.slice A0 O.length c0, .slice A1 H.length c1, .slice A2 U.length c2] 26)).alloc (.cells #[.slice B0 O.length d0, .slice B1 H.length d1, .slice B2 U.length d2] 26)) := (by repeat (first | assumption | exact Below.refl _ _ | apply bw_alloc | apply bw_drew | apply bw_drewN | apply bw_later | apply bw_step))
  have HF := Lib.hid (sameF_any O A0 B0 c0 d0 _ hlo hoO (ha0.mono hbw1) (hb0.mono hbw1))
  go_enter Tryz.func16, Tryz.ntmps16
  go_upto_region 1 with fail
  generalize World.alloc (World.alloc w _) _ = w1 at *
  have p0 := bx1.cell 0 rfl
  have pl := bx1.lt
  have q0 := by1.cell 0 rfl
  have ql := by1.lt
  go_wp2_with fail
  refine HF.out.mono ?_
  rintro e w2 ⟨rfl, hb⟩
  have bx2 := bx1.mono hb
  have by2 := by1.mono hb
  have hbw2 := below_step hbw1 hb
  clear p0 pl q0 ql bx1 by1 hbw1 hb HF
  have p1 := bx2.cell 1 rfl
  have p2 := bx2.cell 2 rfl
  have pl := bx2.lt
  have q1 := by2.cell 1 rfl
  have q2 := by2.cell 2 rfl
  have ql := by2.lt
  go_wp2_with fail
  go_loopw [5] (fun i wr => ∃ k : Nat, k ≤ H.length ∧ i = .int .i64 k ∧ Box wr w.heap.size [.slice A0 O.length c0, .slice A1 H.length c1, .slice A2 U.length c2] 26 ∧ Box wr (w.heap.size + 1) [.slice B0 O.length d0, .slice B1 H.length d1, .slice B2 U.length d2] 26 ∧ Below w.heap.size w wr) (fun i _ => H.length - (intOf i).toNat)
  case atStart => exact ⟨0, Nat.zero_le _, rfl, bx2, by2, hbw2⟩
  case round =>
    clear p1 p2 pl q1 q2 ql bx2 by2 hbw2
    obtain ⟨k, hk, rfl, hbx, hby, hbw⟩ := hrel
    have p1 := hbx.cell 1 rfl
    have pl := hbx.lt
    have q1 := hby.cell 1 rfl
    have ql := hby.lt
    by_cases hlt : k < H.length
    · obtain ⟨b, o, A3, c3, rfl, h1, x0, x1, x2, x3, x4, x5, x6, hc3, hs3⟩ := (ha1.mono hbw).hdn_at hlt
      obtain ⟨b', o', B3, e3, rfl, h2, f0, f1, f2, f3, f4, f5, f6, hc4, hs4⟩ := (hb1.mono hbw).hdn_at hlt
      have HC : Hid (∀ W, Below wr.heap.size wr W → Calls Tryz.prog 28 #[.agg #[.int .i64 H[k].f.kind, .string H[k].f.plc.cls, .string H[k].f.plc.mth, .int .i64 H[k].f.plc.ins, .string H[k].f.what, .slice A3 H[k].f.path.length c3], .agg #[.int .i64 H[k].f.kind, .string H[k].f.plc.cls, .string H[k].f.plc.mth, .int .i64 H[k].f.plc.ins, .string H[k].f.what, .slice B3 H[k].f.path.length e3]] W fun e w' => e = .returned (.int .i64 0) ∧ Below W.heap.size W w') := fun W h => by
        have := cmpF_ref H[k].f H[k].f A3 B3 c3 e3 W (hoH.out _ (List.getElem_mem hlt)).2.2.1 (hoH.out _ (List.getElem_mem hlt)).2.2.1 (hs3.mono h) (hs4.mono h)
        rwa [ord_cmpF.self] at this
      have tn : (H[k].note != H[k].note) = false := by simp
      go_wp2_with fail
      refine wp_region_later (by kernel_rfl) (by kernel_rfl) ?_
      repeat (go_big_quiet_step ((go_at_call 28; exact Calls.later (HC.out _ (by exact (by repeat (first | assumption | exact Below.refl _ _ | apply bw_alloc | apply bw_drew | apply bw_drewN | apply bw_later | apply bw_step)))))))
      refine wpQuiet_nil ?_
      rintro _ ⟨z, rfl⟩
      have hbw2 := below_step hbw z.h
      go_wp2_with fail
      go_roundw
      case rel => exact ⟨k + 1, by omega, by go_num, hbx.mono z.h, hby.mono z.h, hbw2⟩
      case measure => simp [intOf]; omega
    · go_wp2_with fail
      clear p1 pl q1 ql hk hlt
      obtain ⟨wo, rfl⟩ : ∃ wo : World, wo = wr := ⟨_, rfl⟩
      go_loopw [6] (fun i wr => ∃ k : Nat, k ≤ U.length ∧ i = .int .i64 k ∧ Box wr w.heap.size [.slice A0 O.length c0, .slice A1 H.length c1, .slice A2 U.length c2] 26 ∧ Box wr (w.heap.size + 1) [.slice B0 O.length d0, .slice B1 H.length d1, .slice B2 U.length d2] 26 ∧ Below w.heap.size w wr) (fun i _ => U.length - (intOf i).toNat)
      case atStart => exact ⟨0, Nat.zero_le _, rfl, hbx, hby, hbw⟩
      case round =>
        clear hbx hby hbw
        obtain ⟨k, hk, rfl, hbx, hby, hbw⟩ := hrel
        have p2 := hbx.cell 2 rfl
        have pl := hbx.lt
        have q2 := hby.cell 2 rfl
        have ql := hby.lt
        by_cases hlt : k < U.length
        · obtain ⟨b, o, rfl, h1, x0⟩ := (ha2.mono hbw).int_at hlt
          obtain ⟨b', o', rfl, h2, y0⟩ := (hb2.mono hbw).int_at hlt
          have tn : (U[k] != U[k]) = false := by simp
          go_wp2_with fail
          refine wp_region_later (by kernel_rfl) (by kernel_rfl) ?_
          repeat (go_big_quiet_step (fail))
          refine wpQuiet_nil ?_
          rintro _ ⟨z, rfl⟩
          go_wp2_with fail
          go_roundw
          case rel => exact ⟨k + 1, by omega, by go_num, hbx.mono z.h, hby.mono z.h, below_step hbw z.h⟩
          case measure => simp [intOf]; omega
        · go_wp2_with fail
          go_ret
          exact ⟨rfl, hbw⟩
end Go.Proofs.YtlcdnkloijehjaaGreatDoor
