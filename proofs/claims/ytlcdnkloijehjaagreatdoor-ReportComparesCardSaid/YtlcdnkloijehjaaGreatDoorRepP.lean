/-
  Chapter 47: report.Check.
-/
import Derived.Test.YtlcdnkloijehjaaGreatDoorRepO
import Derived.Test.YtlcdnkloijehjaaGreatDoorRepM
namespace Go.Proofs.YtlcdnkloijehjaaGreatDoor
open Go.RowKit
set_option linter.unusedVariables false

structure OkRpt (r : Rpt) : Prop where
  l0 : r.opn.length ≤ 9223372036854775807
  l1 : r.hdn.length ≤ 9223372036854775807
  l2 : r.uns.length ≤ 9223372036854775807
  opn : ∀ x ∈ r.opn, OkFnd x
  hdn : ∀ h ∈ r.hdn, OkFnd h.f
theorem Sl.fnds_at {w : World} {A : Option Addr} {ls : List (List Fnd)} (h : Sl Lay.fnd.slice w A ls) {i : Nat} (hi : i < ls.length) : ∃ (b o : Nat) (A3 : Option Addr) (c3 : Nat), A = some ⟨b, o, none⟩ ∧ b < w.heap.size ∧ w.cell? ⟨b, o + i, none⟩ = some (.slice A3 ls[i].length c3) ∧ ls[i].length ≤ c3 ∧ Sl Lay.fnd w A3 ls[i] := by
  obtain ⟨b, o, vs, e, hlt, ⟨A3, c3, rfl, hc3, hs3⟩, hc⟩ := h i ls[i] (List.getElem?_eq_getElem hi)
  exact ⟨b, o, A3, c3, e, hlt, by have := hc 0 _ rfl; rwa [show Lay.fnd.slice.size = 1 from rfl, Nat.mul_one, Nat.add_zero] at this, hc3, hs3⟩
theorem Sl.two {w : World} {g : Nat} {A B : Option Addr} {c d : Nat} {l m : List Fnd} {t : TypeId} (hb : Box w g [.slice A l.length c, .slice B m.length d] t) (hc : l.length ≤ c) (hd : m.length ≤ d) (h1 : Sl Lay.fnd w A l) (h2 : Sl Lay.fnd w B m) : Sl Lay.fnd.slice w (some ⟨g, 0, none⟩) [l, m] := by
  intro i x hx
  match i, hx with
  | 0, hx =>
    simp at hx
    subst hx
    refine ⟨g, 0, _, rfl, hb.lt, ⟨A, c, rfl, hc, h1⟩, fun j v hj => ?_⟩
    match j, hj with
    | 0, hj => simp at hj; subst hj; exact hb.cell 0 rfl
    | j + 1, hj => simp at hj
  | 1, hx =>
    simp at hx
    subst hx
    refine ⟨g, 0, _, rfl, hb.lt, ⟨B, d, rfl, hd, h2⟩, fun j v hj => ?_⟩
    match j, hj with
    | 0, hj => simp at hj; subst hj; exact hb.cell 1 rfl
    | j + 1, hj => simp at hj
  | i + 2, hx => simp at hx
def chainE : List (List Fnd) → Int → Int
  | [], d => d
  | l :: m, d => thenI (fndsE l) (chainE m d)
theorem chainE_step {ls : List (List Fnd)} {k : Nat} (h : k < ls.length) (d : Int) : chainE (ls.drop k) d = thenI (fndsE ls[k]) (chainE (ls.drop (k + 1)) d) := by
  rw [List.drop_eq_getElem_cons h]
  rfl
theorem allT_succ {α : Type} {l : List α} {f : α → Bool} {k : Nat} (h : k < l.length) : (l.take (k + 1)).all f = ((l.take k).all f && f l[k]) := by
  rw [List.take_succ_eq_append_getElem h, List.all_append]
  simp
def RptTail (r : Rpt) : Int := if risesB r.opn && risesB (hidden r) then (if r.opn.any (hasF (hidden r)) then 7 else noteE r.hdn r.uns) else 13
theorem rptE_long {r : Rpt} (h : 1000 < r.opn.length ∨ 1000 < r.hdn.length ∨ 200 < r.uns.length) : rptE r = 3 := if_pos h
theorem rptE_short {r : Rpt} (h : ¬ (1000 < r.opn.length ∨ 1000 < r.hdn.length ∨ 200 < r.uns.length)) : rptE r = chainE [r.opn, hidden r] (RptTail r) := if_neg h
theorem cells_fnd_at {w : World} {g : Nat} (h : w.heap.size = g) (r : RFnd) (t : TypeId) : ∀ j v, (cellsRFnd r)[j]? = some v → (w.alloc (.cells (cellsRFnd r).toArray t)).cell? ⟨g, j, none⟩ = some v := fun j v hj => (Box.at h).cell j hj
set_option maxHeartbeats 8000000 in
set_option maxRecDepth 100000 in
theorem rptCheck_any (r0 : Rpt) (A0 A1 A2 : Option Addr) (c0 c1 c2 : Nat) (w : World) (hok : Hid (OkRpt r0)) (hkw : KwX w) (hc0 : r0.opn.length ≤ c0) (hs0 : Sl Lay.fnd w A0 r0.opn) (hs1 : Sl Lay.hdn w A1 r0.hdn) (hs2 : Sl Lay.int w A2 r0.uns) :
    Calls Tryz.prog 11 #[.agg #[.slice A0 r0.opn.length c0, .slice A1 r0.hdn.length c1, .slice A2 r0.uns.length c2]] w fun e w' => e = .returned (.int .i64 (rptE r0)) ∧ Below w.heap.size w w' := by
  obtain ⟨r, HR⟩ : ∃ r, Hid (r = rptE r0) := ⟨_, Lib.hid rfl⟩
  rw [← HR.out]
  have HL := Lib.hid (rptE_long (r := r0))
  have HS := Lib.hid (rptE_short (r := r0))
  have HTL : Hid (RptTail r0 = if risesB r0.opn && risesB (hidden r0) then (if r0.opn.any (hasF (hidden r0)) then 7 else noteE r0.hdn r0.uns) else 13) := rfl
  have HO1 := Lib.hid hok.out.opn
  have HO2 : Hid (∀ x ∈ hidden r0, OkFnd x) := by
    show ∀ x, _
    intro x hx
    obtain ⟨h, hm, rfl⟩ := List.mem_map.1 hx
    exact hok.out.hdn h hm
  have l0 := hok.out.l0
  have l1 := hok.out.l1
  have l2 := hok.out.l2
  have HHD : Hid (hidden r0 = r0.hdn.map (·.f)) := rfl
  generalize RptTail r0 = tl at *
  obtain ⟨opn, H, U⟩ := r0
  simp only at HL HS HTL HO1 l0 l1 l2 hc0 hs0 hs1 hs2 HHD ⊢
  generalize hhid : hidden ⟨opn, H, U⟩ = hid at *
  clear hhid
  have bx0 := Box.new w [.slice A0 opn.length c0, .slice A1 H.length c1, .slice A2 U.length c2] 26
  have hb0 : Below w.heap.size w (w.alloc (.cells #[.slice A0 opn.length c0, .slice A1 H.length c1, .slice A2 U.length c2] 26)) := (by repeat (first | assumption | exact Below.refl _ _ | apply bw_alloc | apply bw_drew | apply bw_drewN | apply bw_later | apply bw_step))
  go_enter Tryz.func11, Tryz.ntmps11
  by_cases k1 : 1000 < opn.length
  · have HB : Hid (r = 3) := Lib.hid (HR.out.trans (HL.out (Or.inl k1)))
    have k1' : 1000 < (opn.length : Int) := by omega
    go_wp2_with fail
    go_ret
    exact ⟨by rw [HB.out]; rfl, hb0⟩
  have k1' : ¬ 1000 < (opn.length : Int) := by omega
  by_cases k2 : 1000 < H.length
  · have HB : Hid (r = 3) := Lib.hid (HR.out.trans (HL.out (Or.inr (Or.inl k2))))
    have k2' : 1000 < (H.length : Int) := by omega
    go_wp2_with fail
    go_ret
    exact ⟨by rw [HB.out]; rfl, hb0⟩
  have k2' : ¬ 1000 < (H.length : Int) := by omega
  by_cases k3 : 200 < U.length
  · have HB : Hid (r = 3) := Lib.hid (HR.out.trans (HL.out (Or.inr (Or.inr k3))))
    have k3' : 200 < (U.length : Int) := by omega
    go_wp2_with fail
    go_ret
    exact ⟨by rw [HB.out]; rfl, hb0⟩
  have k3' : ¬ 200 < (U.length : Int) := by omega
  have HR1 : Hid (r = chainE [opn, hid] tl) := Lib.hid (HR.out.trans (HS.out (by omega)))
  clear HR HL HS
  go_wp2_with fail
  clear k1' k2' k3'
  go_loopw [3, 37] (fun v i wr => ∃ (k : Nat) (rs : List RFnd), k ≤ H.length ∧ i = .int .i64 k ∧ Own cellsRFnd 6 w.heap.size 46 wr v rs ∧ FndsAt w rs ((H.take k).map (·.f)) ∧ Box wr w.heap.size [.slice A0 opn.length c0, .slice A1 H.length c1, .slice A2 U.length c2] 26 ∧ Below w.heap.size w wr) (fun _ i _ => H.length - (intOf i).toNat)
  case atStart => exact ⟨0, [], Nat.zero_le _, rfl, Own.nil, FndsAt.nil, bx0, hb0⟩
  case round =>
    clear bx0 hb0
    obtain ⟨k, rs, hk, rfl, ho, hf, hbx, hbw⟩ := hrel
    have pl := hbx.lt
    have HLEN : Hid (rs.length = k) := by show _ = _; rw [hf.len]; simp; omega
    by_cases hlt : k < H.length
    · obtain ⟨b, o, A3, c3, rfl, h1, d0, d1, d2, d3, d4, d5, d6, hc3, hs3⟩ := hs1.hdn_at hlt
      rw [← hbw.cell h1] at d0 d1 d2 d3 d4 d5 d6
      have h1' : b < wr.heap.size := Nat.lt_of_lt_of_le h1 hbw.size
      have hrep : Lay.fnd.rep w H[k].f (cellsRFnd ⟨H[k].f.kind, H[k].f.plc, H[k].f.what, A3, H[k].f.path.length, c3⟩) := ⟨A3, c3, cellsPlc H[k].f.plc, rfl, hc3, hs3, rfl⟩
      have hf2 := hf.snoc hrep
      rw [← take_hid hlt] at hf2
      have HF2 := Lib.hid hf2
      clear hf2 hrep
      go_wp2_with (at_builtin; refine wpList_pushG fndsTy cellsRFnd_ok rfl (.tmp 41) (.tmp 44) rfl w.heap.size _ rs rfl ((ho.alloc _).alloc _) (⟨H[k].f.kind, H[k].f.plc, H[k].f.what, A3, H[k].f.path.length, c3⟩ : RFnd) _ _ rfl (cells_fnd_at (by simp) _ _) (by rw [HLEN.out]; unfold maxLen; omega) (by rw [HLEN.out]; omega) (by have := hbw.size; simp; omega) ?_; intro v1 w1 hown1 hb1 hg1)
      have hbx1 := ((hbx.alloc _).alloc _).grown hg1 (ho.ne_box hbx (by decide))
      go_roundw
      case rel => exact ⟨k + 1, _, by omega, by go_num, hown1, HF2.out, hbx1, (bw_alloc (bw_alloc hbw)).trans hb1⟩
      case measure => simp [intOf]; omega
    · obtain rfl : k = H.length := by omega
      rw [List.take_length, ← HHD.out] at hf
      obtain ⟨Ah, ch, rfl, hch, hsh⟩ := ho.slR (M := Lay.fnd) cellsRFnd_ok rfl hf.len (fun i x y h1 h2 => Lay.fnd.mono hbw (hf.each i x y h1 h2))
      have hhl : hid.length ≤ 1000 := by rw [HHD.out, List.length_map]; omega
      clear hf ho HLEN rs hk hlt
      have p0 := hbx.cell 0 rfl
      go_upto_region 10 with fail
      generalize hW : World.alloc wr _ = w1
      have hb1 : Below wr.heap.size wr w1 := by rw [← hW]; exact (by repeat (first | assumption | exact Below.refl _ _ | apply bw_alloc | apply bw_drew | apply bw_drewN | apply bw_later | apply bw_step))
      have bl1 : Box w1 wr.heap.size [.slice A0 opn.length c0, .slice Ah hid.length ch] 22 := by rw [← hW]; exact Box.new _ _ _
      clear hW
      have hbx1 := hbx.mono hb1
      have hbw1 := below_step hbw hb1
      have hsh1 := hsh.mono hb1
      have hls1 := Sl.two bl1 hc0 hch (hs0.mono hbw1) hsh1
      have HOL : Hid (∀ l ∈ [opn, hid], l.length ≤ 1000 ∧ ∀ x ∈ l, OkFnd x) := by
        show ∀ l, _
        intro l hl
        simp only [List.mem_cons, List.not_mem_nil, or_false] at hl
        rcases hl with rfl | rfl
        · exact ⟨by omega, HO1.out⟩
        · exact ⟨hhl, HO2.out⟩
      obtain ⟨ls, HLS⟩ : ∃ ls, Hid (ls = [opn, hid]) := ⟨_, Lib.hid rfl⟩
      have hll : ls.length = 2 := by rw [HLS.out]; rfl
      rw [← HLS.out] at HOL hls1 HR1
      have HLL := Lib.hid hll
      clear hll hbx hbw hsh p0 pl bl1
      go_wp2_with fail
      go_loopw [52] (fun i wr => ∃ k : Nat, k ≤ 2 ∧ i = .int .i64 k ∧ Hid (r = chainE (ls.drop k) tl) ∧ Below w1.heap.size w1 wr) (fun i _ => 2 - (intOf i).toNat)
      case atStart => exact ⟨0, Nat.zero_le _, rfl, HR1, Below.refl _ _⟩
      case round =>
        clear HR1
        obtain ⟨k, hk, rfl, HR, hbq⟩ := hrel
        by_cases hlt : k < 2
        · have hkl : k < ls.length := by rw [HLL.out]; exact hlt
          obtain ⟨b, o, A3, c3, e0, h1, d0, hc3, hs3⟩ := (hls1.mono hbq).fnds_at hkl
          injection e0 with e0
          injection e0 with z1 z2
          subst z1 z2
          simp only [Nat.zero_add] at d0
          have HCS := Lib.hid (chainE_step hkl tl)
          obtain ⟨hl1, HOK⟩ := HOL.out _ (List.getElem_mem hkl)
          have HOK := Lib.hid HOK
          generalize hlk : ls[k] = l at *
          clear hlk
          have HR2 : Hid (r = thenI (fndsE (l.drop 0)) (chainE (ls.drop (k + 1)) tl)) := Lib.hid (HR.out.trans HCS.out)
          clear HR HCS
          obtain ⟨wo, rfl⟩ : ∃ wo : World, wo = wr := ⟨_, rfl⟩
          have k2' : (k : Int) < 2 := by omega
          go_wp2_with fail
          go_loopw [58] (fun i wr => ∃ j : Nat, j ≤ l.length ∧ i = .int .i64 j ∧ Hid (r = thenI (fndsE (l.drop j)) (chainE (ls.drop (k + 1)) tl)) ∧ Below wo.heap.size wo wr) (fun i _ => l.length - (intOf i).toNat)
          case atStart => exact ⟨0, Nat.zero_le _, rfl, HR2, Below.refl _ _⟩
          case round =>
            clear HR2 d0 h1
            obtain ⟨j, hj, rfl, HR, hbj⟩ := hrel
            have hbwj := below_step hbw1 (below_step hbq hbj)
            by_cases hlt2 : j < l.length
            · obtain ⟨b, o, A4, c4, rfl, h1, d0, d1, d2, d3, d4, d5, hc4, hs4⟩ := (hs3.mono hbj).fnd_at hlt2
              have HC : Hid (∀ W, Below wr.heap.size wr W → Calls Tryz.prog 21 #[.agg #[.int .i64 l[j].kind, .string l[j].plc.cls, .string l[j].plc.mth, .int .i64 l[j].plc.ins, .string l[j].what, .slice A4 l[j].path.length c4]] W fun e w' => e = .returned (.int .i64 (fndE l[j])) ∧ Below W.heap.size W w') := fun W h => fndCheck_any l[j] A4 c4 W (Lib.hid (HOK.out _ (List.getElem_mem hlt2))) (hkw.mono (below_step hbwj h)) (hs4.mono h)
              have HSS := Lib.hid (fndsE_step hlt2)
              obtain ⟨g, HG⟩ : ∃ g, Hid (g = fndE l[j]) := ⟨_, Lib.hid rfl⟩
              rw [← HG.out] at HSS HC
              rw [HSS.out] at HR
              clear HSS HG
              go_wp2_with fail
              refine (HC.out _ (by repeat (first | assumption | exact Below.refl _ _ | apply bw_alloc | apply bw_drew | apply bw_drewN | apply bw_later | apply bw_step))).mono ?_
              rintro e w2 ⟨rfl, hb2⟩
              have hbj2 := below_step (bw_alloc hbj) hb2
              by_cases hg : g = 0
              · rw [thenI_z hg] at HR
                have tg : (g != 0) = false := by simp [hg]
                clear hg
                go_wp2_with fail
                go_roundw
                case rel => exact ⟨j + 1, by omega, by go_num, HR, hbj2⟩
                case measure => simp [intOf]; omega
              · rw [thenI_n hg, thenI_n hg] at HR
                have tg : (g != 0) = true := by simp [hg]
                clear hg
                go_wp2_with fail
                go_ret
                exact ⟨by rw [HR.out]; rfl, below_step hbw1 (below_step hbq hbj2)⟩
            · rw [fndsE_end hlt2, thenI_z rfl] at HR
              go_wp2_with fail
              go_roundw
              case rel => exact ⟨k + 1, by omega, by go_num, HR, below_step hbq hbj⟩
              case measure => simp [intOf]; omega
        · have HK : Hid (k = 2) := by show k = 2; omega
          have k3' : ¬ (k : Int) < 2 := by omega
          have HR2 : Hid (r = if risesB opn && risesB hid then (if opn.any (hasF hid) then 7 else noteE H U) else 13) := by
            show _ = _
            rw [HR.out, List.drop_eq_nil_of_le (by rw [HLL.out, HK.out]; exact Nat.le_refl _)]
            exact HTL.out
          have hbx2 := hbx1.mono hbq
          have hbw2 := below_step hbw1 hbq
          have hsh2 := hsh1.mono hbq
          clear HR HTL hbx1 hbw1 hsh1 hls1 hbq hlt hk
          have p0 := hbx2.cell 0 rfl
          have pl := hbx2.lt
          go_upto_region 21 with fail
          generalize hW : World.alloc wr _ = w3
          have hb3 : Below wr.heap.size wr w3 := by rw [← hW]; exact (by repeat (first | assumption | exact Below.refl _ _ | apply bw_alloc | apply bw_drew | apply bw_drewN | apply bw_later | apply bw_step))
          have bl3 : Box w3 wr.heap.size [.slice A0 opn.length c0, .slice Ah hid.length ch] 22 := by rw [← hW]; exact Box.new _ _ _
          clear hW
          have hbx3 := hbx2.mono hb3
          have hbw3 := below_step hbw2 hb3
          have hsh3 := hsh2.mono hb3
          have hls3 := Sl.two bl3 hc0 hch (hs0.mono hbw3) hsh3
          rw [← HLS.out] at hls3
          have HBAD : Hid (∀ x ∈ ls, risesB x = false → r = 13) := by
            show ∀ x, _
            intro x hx hb
            rw [HLS.out] at hx
            simp only [List.mem_cons, List.not_mem_nil, or_false] at hx
            rw [HR2.out]
            rcases hx with rfl | rfl
            · rw [hb]; rfl
            · rw [hb, Bool.and_false]; rfl
          clear hbx2 hbw2 hsh2 p0 pl bl3 hb3
          go_wp2_with fail
          go_loopw [74] (fun i wr => ∃ k : Nat, k ≤ 2 ∧ i = .int .i64 k ∧ Hid ((ls.take k).all risesB = true) ∧ Below w3.heap.size w3 wr) (fun i _ => 2 - (intOf i).toNat)
          case atStart => exact ⟨0, Nat.zero_le _, rfl, Lib.hid rfl, Below.refl _ _⟩
          case round =>
            obtain ⟨k, hk, rfl, HA, hbq⟩ := hrel
            by_cases hlt : k < 2
            · have hkl : k < ls.length := by rw [HLL.out]; exact hlt
              obtain ⟨b, o, A3, c3, e0, h1, d0, hc3, hs3⟩ := (hls3.mono hbq).fnds_at hkl
              injection e0 with e0
              injection e0 with z1 z2
              subst z1 z2
              simp only [Nat.zero_add] at d0
              have HAS := Lib.hid (allT_succ (f := risesB) hkl)
              have HBD := Lib.hid (HBAD.out _ (List.getElem_mem hkl))
              obtain ⟨hl1, HOK⟩ := HOL.out _ (List.getElem_mem hkl)
              have HOK := Lib.hid HOK
              generalize hlk : ls[k] = l at *
              clear hlk
              have HA2 : Hid (risesB l = true → (ls.take (k + 1)).all risesB = true) := by
                show _ → _
                intro h
                rw [HAS.out, HA.out, h]
                rfl
              clear HA HAS
              obtain ⟨wo, rfl⟩ : ∃ wo : World, wo = wr := ⟨_, rfl⟩
              have k2' : (k : Int) < 2 := by omega
              go_wp2_with fail
              go_loopw [13] (fun i wr => ∃ j : Nat, j ≤ l.length ∧ i = .int .i64 ((j : Int) + 1) ∧ Hid (risesB l = risesB (l.drop j)) ∧ Below wo.heap.size wo wr) (fun i _ => l.length + 1 - (intOf i).toNat)
              case atStart => exact ⟨0, Nat.zero_le _, rfl, Lib.hid rfl, Below.refl _ _⟩
              case round =>
                clear d0 h1
                obtain ⟨j, hj, rfl, HR, hbj⟩ := hrel
                by_cases hlt2 : j + 1 < l.length
                · have hlt0 : j < l.length := by omega
                  obtain ⟨b, o, A4, c4, rfl, h1, d0, d1, d2, d3, d4, d5, hc4, hs4⟩ := (hs3.mono hbj).fnd_at hlt0
                  obtain ⟨b', o', B4, e4, e0, h2, f0, f1, f2, f3, f4, f5, hc5, hs5⟩ := (hs3.mono hbj).fnd_at hlt2
                  obtain ⟨rfl, rfl⟩ : b = b' ∧ o = o' := by simpa using e0
                  have HC : Hid (∀ W, Below wr.heap.size wr W → Calls Tryz.prog 22 #[.agg #[.int .i64 l[j].kind, .string l[j].plc.cls, .string l[j].plc.mth, .int .i64 l[j].plc.ins, .string l[j].what, .slice A4 l[j].path.length c4], .agg #[.int .i64 l[j + 1].kind, .string l[j + 1].plc.cls, .string l[j + 1].plc.mth, .int .i64 l[j + 1].plc.ins, .string l[j + 1].what, .slice B4 l[j + 1].path.length e4]] W fun e w' => e = .returned (.int .i64 (cmpF l[j] l[j + 1])) ∧ Below W.heap.size W w') := fun W h => cmpF_prog l[j] l[j + 1] A4 B4 c4 e4 W (HOK.out _ (List.getElem_mem hlt0)).2.2.1 (HOK.out _ (List.getElem_mem hlt2)).2.2.1 (hs4.mono h) (hs5.mono h)
                  have HS := Lib.hid (risesB_step hlt2)
                  obtain ⟨g, HG⟩ : ∃ g, Hid (g = cmpF l[j] l[j + 1]) := ⟨_, Lib.hid rfl⟩
                  rw [← HG.out] at HS HC
                  rw [HS.out] at HR
                  clear HS HG e0
                  have i1 : ((j : Int) + 1 - 1) = (j : Int) := by omega
                  have g1 : ((j : Int) + 1 < (l.length : Int)) := by omega
                  by_cases hg : g < 0
                  · have HR2 : Hid (risesB l = risesB (l.drop (j + 1))) := by show _ = _; rw [HR.out, decide_eq_true hg]; rfl
                    have tg : ¬ 0 ≤ g := by omega
                    clear HR
                    go_wp2_with fail
                    refine wp_region_later (by kernel_rfl) (by kernel_rfl) ?_
                    repeat (go_big_quiet_step ((go_at_call 22; exact Calls.later (HC.out _ (by exact (by repeat (first | assumption | exact Below.refl _ _ | apply bw_alloc | apply bw_drew | apply bw_drewN | apply bw_later | apply bw_step)))))))
                    refine wpQuiet_nil ?_
                    rintro _ ⟨z, rfl⟩
                    have hbj2 := below_step hbj z.h
                    go_wp2_with fail
                    go_roundw
                    case rel => exact ⟨j + 1, by omega, by go_num, HR2, hbj2⟩
                    case measure => simp [intOf]; omega
                  · have HR2 : Hid (r = 13) := Lib.hid (HBD.out (by rw [HR.out, decide_eq_false hg]; rfl))
                    have tg : 0 ≤ g := by omega
                    clear HR
                    go_wp2_with fail
                    refine wp_region_later (by kernel_rfl) (by kernel_rfl) ?_
                    repeat (go_big_quiet_step ((go_at_call 22; exact Calls.later (HC.out _ (by exact (by repeat (first | assumption | exact Below.refl _ _ | apply bw_alloc | apply bw_drew | apply bw_drewN | apply bw_later | apply bw_step)))))))
                    refine wpQuiet_nil ?_
                    rintro _ ⟨z, rfl⟩
                    have hbj2 := below_step hbj z.h
                    go_wp2_with fail
                    go_ret
                    exact ⟨by rw [HR2.out]; rfl, below_step hbw3 (below_step hbq hbj2)⟩
                · have HA3 := Lib.hid (HA2.out (by rw [HR.out, risesB_end (by omega)]))
                  have g1 : ¬ ((j : Int) + 1 < (l.length : Int)) := by omega
                  clear HR HA2 HBD
                  go_wp2_with fail
                  go_roundw
                  case rel => exact ⟨k + 1, by omega, by go_num, HA3, below_step hbq hbj⟩
                  case measure => simp [intOf]; omega
            · have HK : Hid (k = 2) := by show k = 2; omega
              have k4' : ¬ (k : Int) < 2 := by omega
              have HRI : Hid (risesB opn = true ∧ risesB hid = true) := by
                show _ ∧ _
                have h := HA.out
                rw [List.take_of_length_le (by rw [HLL.out, HK.out]; exact Nat.le_refl _), HLS.out] at h
                simpa using h
              have HR3 : Hid (r = if opn.any (hasF hid) then 7 else noteE H U) := by
                show _ = _
                rw [HR2.out, HRI.out.1, HRI.out.2]
                rfl
              have HRH := Lib.hid HRI.out.2
              have hbx4 := hbx3.mono hbq
              have hbw4 := below_step hbw3 hbq
              have hsh4 := hsh3.mono hbq
              clear HR2 HA HRI HBAD hbx3 hbw3 hsh3 hls3 hbq hlt hk
              have p0 := hbx4.cell 0 rfl
              have pl := hbx4.lt
              obtain ⟨wo, rfl⟩ : ∃ wo : World, wo = wr := ⟨_, rfl⟩
              go_wp2_with fail
              go_loopw [99] (fun i wr => ∃ j : Nat, j ≤ opn.length ∧ i = .int .i64 j ∧ Hid ((opn.take j).any (hasF hid) = false) ∧ Below wo.heap.size wo wr) (fun i _ => opn.length - (intOf i).toNat)
              case atStart => exact ⟨0, Nat.zero_le _, rfl, Lib.hid rfl, Below.refl _ _⟩
              case round =>
                clear p0 pl
                obtain ⟨j, hj, rfl, HN, hbj⟩ := hrel
                have hbwj := below_step hbw4 hbj
                by_cases hlt2 : j < opn.length
                · obtain ⟨b, o, A4, c4, rfl, h1, d0, d1, d2, d3, d4, d5, hc4, hs4⟩ := (hs0.mono hbwj).fnd_at hlt2
                  have HC : Hid (∀ W, Below wr.heap.size wr W → Calls Tryz.prog 23 #[.slice Ah hid.length ch, .agg #[.int .i64 opn[j].kind, .string opn[j].plc.cls, .string opn[j].plc.mth, .int .i64 opn[j].plc.ins, .string opn[j].what, .slice A4 opn[j].path.length c4], .func (.func 22) #[] #[]] W fun e w' => HasR (hasF hid opn[j]) e ∧ Below W.heap.size W w') := fun W h => bsF_any hid opn[j] Ah A4 ch c4 W (by omega) HRH (Lib.hid (fun y hy => (HO2.out y hy).2.2.1)) (HO1.out _ (List.getElem_mem hlt2)).2.2.1 (hsh4.mono (below_step hbj h)) (hs4.mono h)
                  have HV := Lib.hid (anyT_yes (f := hasF hid) hlt2)
                  have HS := Lib.hid (anyT_succ (f := hasF hid) hlt2)
                  generalize hasF hid opn[j] = v at *
                  rw [HN.out] at HS
                  clear HN
                  go_wp2_with fail
                  refine (HC.out _ (by repeat (first | assumption | exact Below.refl _ _ | apply bw_alloc | apply bw_drew | apply bw_drewN | apply bw_later | apply bw_step))).mono ?_
                  rintro e w2 ⟨⟨iv, rfl⟩, hb2⟩
                  have hbj2 := below_step (bw_alloc hbj) hb2
                  cases v with
                  | true =>
                    have HR4 : Hid (r = 7) := by show _ = _; rw [HR3.out, HV.out rfl]; rfl
                    clear HV HS HR3
                    go_wp2_with fail
                    go_ret
                    exact ⟨by rw [HR4.out]; rfl, below_step hbw4 hbj2⟩
                  | false =>
                    have HN2 : Hid ((opn.take (j + 1)).any (hasF hid) = false) := Lib.hid HS.out
                    clear HV HS
                    go_wp2_with fail
                    go_roundw
                    case rel => exact ⟨j + 1, by omega, by go_num, HN2, hbj2⟩
                    case measure => simp [intOf]; omega
                · obtain rfl : j = opn.length := by omega
                  rw [List.take_length] at HN
                  have HR4 : Hid (r = noteE H U) := by show _ = _; rw [HR3.out, HN.out]; rfl
                  clear HN HR3
                  have hbx5 := hbx4.mono hbj
                  have p0 := hbx5.cell 0 rfl
                  have p1 := hbx5.cell 1 rfl
                  have p2 := hbx5.cell 2 rfl
                  have pl := hbx5.lt
                  go_wp2_with fail
                  refine (checkNotes_any H U A0 A1 A2 opn.length c0 c1 c2 _ (by omega) (by omega) (hs1.mono hbwj) (hs2.mono hbwj)).mono ?_
                  rintro e w2 ⟨rfl, hb2⟩
                  rw [← HR4.out]
                  go_wp2_with fail
                  go_ret
                  exact ⟨rfl, below_step hbwj hb2⟩
end Go.Proofs.YtlcdnkloijehjaaGreatDoor
