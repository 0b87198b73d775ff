/-
  Chapter 42: a policy against a hierarchy: the plain function, and the reference's.
-/
import Derived.Test.YthabojhnliomnaaGreatDoorFitC
import Derived.Test.YthabojhnliomnaaGreatDoorPolQ
namespace Go.Proofs.YthabojhnliomnaaGreatDoor
open Go.RowKit
set_option linter.unusedVariables false

def fitF (cs : List Cls) (l : List Rul) (k : Nat) : Int := match l[k]? with
  | some x => fitE cs x
  | none => 0
theorem fitF_at {cs : List Cls} {l : List Rul} {k : Nat} (h : k < l.length) : fitF cs l k = fitE cs l[k] := by unfold fitF; rw [List.getElem?_eq_getElem h]
def fitPF (cs : List Cls) (l : List Ptc) (k : Nat) : Int := match l[k]? with
  | some x => fitP cs x
  | none => 0
theorem fitPF_at {cs : List Cls} {l : List Ptc} {k : Nat} (h : k < l.length) : fitPF cs l k = fitP cs l[k] := by unfold fitPF; rw [List.getElem?_eq_getElem h]
def fitsR (cs : List Cls) (p : Pol) : Int × Int :=
  if (polE p).2 ≠ 0 then polE p else
  match firstP (fitF cs p.rules) p.rules.length with
  | some k => ((k : Int), fitF cs p.rules k)
  | none => match firstP (fitPF cs p.protocols) p.protocols.length with
    | some k => ((p.rules.length : Int) + k, fitPF cs p.protocols k)
    | none => (0, 0)
theorem fitsR_bad {cs : List Cls} {p : Pol} (h : (polE p).2 ≠ 0) : fitsR cs p = polE p := if_pos h
theorem fitsR_rule {cs : List Cls} {p : Pol} (h : (polE p).2 = 0) {k : Nat} (hk : k < p.rules.length) (h0 : firstE (fitF cs p.rules) k = 0) (he : fitE cs p.rules[k] ≠ 0) : fitsR cs p = ((k : Int), fitE cs p.rules[k]) := by
  unfold fitsR
  rw [if_neg (by rw [h]; simp), firstP_hit h0 (by rw [fitF_at hk]; exact he) hk]
  show ((k : Int), fitF cs p.rules k) = _
  rw [fitF_at hk]
theorem fitsR_ptc {cs : List Cls} {p : Pol} (h : (polE p).2 = 0) (hr : firstE (fitF cs p.rules) p.rules.length = 0) {k : Nat} (hk : k < p.protocols.length) (h0 : firstE (fitPF cs p.protocols) k = 0) (he : fitP cs p.protocols[k] ≠ 0) : fitsR cs p = ((p.rules.length : Int) + k, fitP cs p.protocols[k]) := by
  unfold fitsR
  rw [if_neg (by rw [h]; simp), firstP_none hr, firstP_hit h0 (by rw [fitPF_at hk]; exact he) hk]
  show ((p.rules.length : Int) + k, fitPF cs p.protocols k) = _
  rw [fitPF_at hk]
theorem fitsR_ok {cs : List Cls} {p : Pol} (h : (polE p).2 = 0) (hr : firstE (fitF cs p.rules) p.rules.length = 0) (h0 : firstE (fitPF cs p.protocols) p.protocols.length = 0) : fitsR cs p = (0, 0) := by
  unfold fitsR
  rw [if_neg (by rw [h]; simp), firstP_none hr, firstP_none h0]
theorem polE_lens {p : Pol} (h : (polE p).2 = 0) : p.rules.length ≤ 64 ∧ p.protocols.length ≤ 64 := by
  by_cases hl : 64 < p.rules.length ∨ 64 < p.protocols.length
  · rw [polE_long hl] at h
    exact absurd h (by decide)
  · omega
set_option maxRecDepth 100000 in
set_option maxHeartbeats 4000000 in
theorem refFits_any (cs : List Cls) (p : Pol) (A A2 AH AF : Option Addr) (c c2 cH nF cF : Nat) (mn : Int) (w : World) (hcs : Hid (OkCs cs)) (hok : Hid (OkPol p)) (hc2 : p.protocols.length ≤ c2) (hs : Sl Lay.rul w A p.rules) (hs2 : Sl Lay.ptc w A2 p.protocols) (hsl : Sl Lay.cls w AH cs) :
    Calls Tryz.prog 21 #[.agg #[.slice A p.rules.length c, .slice A2 p.protocols.length c2], .agg #[.slice AH cs.length cH, .slice AF nF cF, .int .i64 mn]] w fun e w' => e = .returned (.tuple #[.int .i64 (fitsR cs p).1, .int .i64 (fitsR cs p).2]) ∧ Below w.heap.size w w' := by
  obtain ⟨r, HR⟩ : ∃ r, Hid (r = fitsR cs p) := ⟨_, Lib.hid rfl⟩
  rw [← HR.out]
  have HRET : Hid (∀ a b : Int, r = (a, b) → (Ending.returned (.tuple #[.int .i64 a, .int .i64 b]) = Ending.returned (.tuple #[.int .i64 r.1, .int .i64 r.2]))) := fun a b h => by rw [h]
  have HCK := Lib.hid (fun W h => refPolCheck_any p A A2 c c2 W hok hc2 (hs.mono h) (hs2.mono h))
  have okp := Lib.hid hok.out.p
  obtain ⟨q, HQ⟩ : ∃ q, Hid (q = polE p) := ⟨_, Lib.hid rfl⟩
  rw [← HQ.out] at HCK
  obtain ⟨q1, q2⟩ := q
  simp only at HCK
  have HBAD : Hid (q2 ≠ 0 → r = (q1, q2)) := fun h => by rw [HR.out, fitsR_bad (by rw [← HQ.out]; exact h), HQ.out]
  have HZ : Hid (q2 = 0 → (polE p).2 = 0) := fun h => by rw [← HQ.out]; exact h
  clear HQ
  obtain ⟨rs, ps⟩ := p
  simp only at hs hs2 hc2 ⊢
  have bx0 := Box.new w [.slice A rs.length c, .slice A2 ps.length c2] 25
  have bx1 := bx0.alloc (.cells #[.slice AH cs.length cH, .slice AF nF cF, .int .i64 mn] 45)
  have bu0 := Box.new (w.alloc (.cells #[.slice A rs.length c, .slice A2 ps.length c2] 25)) [.slice AH cs.length cH, .slice AF nF cF, .int .i64 mn] 45
  rw [show (w.alloc (.cells #[.slice A rs.length c, .slice A2 ps.length c2] 25)).heap.size = w.heap.size + 1 by simp] at bu0
  have hb0 : Below w.heap.size w ((w.alloc (.cells #[.slice A rs.length c, .slice A2 ps.length c2] 25)).alloc (.cells #[.slice AH cs.length cH, .slice AF nF cF, .int .i64 mn] 45)) := (by repeat (first | assumption | exact Below.refl _ _ | apply bw_alloc | apply bw_drew | apply bw_drewN | apply bw_later | apply bw_step))
  go_enter Tryz.func21, Tryz.ntmps21
  go_wp2_with fail
  refine (HCK.out _ hb0).mono ?_
  rintro e w1 ⟨rfl, hb1⟩
  have bx2 := bx1.mono hb1
  have bu2 := bu0.mono hb1
  have hbw1 := below_step hb0 hb1
  clear bx0 bx1 bu0 hb0 hb1 HCK
  by_cases hq : q2 = 0
  case neg =>
    have HB := Lib.hid (HBAD.out hq)
    have tq : (q2 != 0) = true := by simpa using hq
    clear hq
    go_wp2_with fail
    go_ret2
    exact ⟨HRET.out _ _ HB.out, hbw1⟩
  have HPZ := Lib.hid (HZ.out hq)
  subst hq
  have hlens := polE_lens HPZ.out
  simp only at hlens
  obtain ⟨hln, hlm⟩ := hlens
  clear HBAD HZ
  go_wp2_with fail
  go_loopw [8] (fun i wr => ∃ k : Nat, k ≤ rs.length ∧ i = .int .i64 k ∧ Hid (firstE (fitF cs rs) k = 0) ∧ Box wr w.heap.size [.slice A rs.length c, .slice A2 ps.length c2] 25 ∧ Box wr (w.heap.size + 1) [.slice AH cs.length cH, .slice AF nF cF, .int .i64 mn] 45 ∧ Below w.heap.size w wr) (fun i _ => rs.length - (intOf i).toNat)
  case atStart => exact ⟨0, Nat.zero_le _, rfl, Lib.hid rfl, bx2, bu2, hbw1⟩
  case round =>
    clear bx2 bu2 hbw1
    obtain ⟨k, hk, rfl, HN, bx, bu, hbw⟩ := hrel
    have p0 := bx.cell 0 rfl
    have pl := bx.lt
    have u0 := bu.cell 0 rfl
    have ul := bu.lt
    by_cases hlt : k < rs.length
    · obtain ⟨b, o, A5, c5, rfl, hb, d0, d1, d2, d3, d4, d5, d6, d7, hc5, hs5⟩ := (hs.mono hbw).rul_at hlt
      have HC : Hid (∀ x : Later wr, Calls Tryz.prog 59 #[.agg #[.slice AH cs.length cH], .agg #[.int .i64 rs[k].kind, .string rs[k].cls, .string rs[k].mth, .int .i64 rs[k].pth.root, .int .i64 rs[k].pth.n, .slice A5 rs[k].pth.fields.length c5, .bool rs[k].pth.star, .string rs[k].tag]] x.W fun e w' => e = .returned (.int .i64 (fitE cs rs[k])) ∧ Below x.W.heap.size x.W w') := fun x => fitsRule_any cs rs[k] AH A5 cH c5 x.W hcs (hsl.mono (below_step hbw x.h))
      have HF := Lib.hid (fitF_at (cs := cs) hlt)
      have HHIT : Hid (fitE cs rs[k] ≠ 0 → r = ((k : Int), fitE cs rs[k])) := fun h => by rw [HR.out]; exact fitsR_rule HPZ.out hlt HN.out h
      have HPS : Hid (fitE cs rs[k] = 0 → firstE (fitF cs rs) (k + 1) = 0) := fun h => firstE_pass HN.out (by rw [HF.out, h])
      clear HF
      generalize fitE cs rs[k] = fe at *
      go_wp2_with fail
      refine wp_region_later (by kernel_rfl) (by kernel_rfl) ?_
      repeat (go_big_quiet_step (first | (go_at_call 59; exact Calls.later (HC.out _))))
      refine wpQuiet_nil ?_
      rintro _ ⟨x, rfl⟩
      by_cases hfe : fe = 0
      · have HE := Lib.hid (HPS.out hfe)
        subst hfe
        go_wp2_with fail
        go_roundw
        case rel => exact ⟨k + 1, by omega, by go_num, HE, bx.mono x.h, bu.mono x.h, below_step hbw x.h⟩
        case measure => simp [intOf]; omega
      · have HB := Lib.hid (HHIT.out hfe)
        have tq : (fe != 0) = true := by simpa using hfe
        clear hfe
        go_wp2_with fail
        go_ret2
        exact ⟨HRET.out _ _ HB.out, below_step hbw x.h⟩
    · obtain rfl : k = rs.length := by omega
      have HNR : Hid (firstE (fitF cs rs) rs.length = 0) := HN.out
      clear HN hlt hk
      go_wp2_with fail
      clear p0 pl u0 ul
      obtain ⟨wo, rfl⟩ : ∃ wo : World, wo = wr := ⟨_, rfl⟩
      go_loopw [9] (fun i wr => ∃ k : Nat, k ≤ ps.length ∧ i = .int .i64 k ∧ Hid (firstE (fitPF cs ps) k = 0) ∧ Box wr w.heap.size [.slice A rs.length c, .slice A2 ps.length c2] 25 ∧ Box wr (w.heap.size + 1) [.slice AH cs.length cH, .slice AF nF cF, .int .i64 mn] 45 ∧ Below w.heap.size w wr) (fun i _ => ps.length - (intOf i).toNat)
      case atStart => exact ⟨0, Nat.zero_le _, rfl, Lib.hid rfl, bx, bu, hbw⟩
      case round =>
        clear bx bu hbw
        obtain ⟨k, hk, rfl, HN, bx, bu, hbw⟩ := hrel
        have p0 := bx.cell 0 rfl
        have p1 := bx.cell 1 rfl
        have pl := bx.lt
        have u0 := bu.cell 0 rfl
        have ul := bu.lt
        by_cases hlt : k < ps.length
        · obtain ⟨b, o, A5, c5, A6, c6, rfl, hb, d0, d1, d2, d3, d4, hc5, hs5, hc6, hs6⟩ := (hs2.mono hbw).ptc_at hlt
          have hml := (okp.out _ (List.getElem_mem hlt)).2.2.2.1
          have HC : Hid (∀ x : Later wr, Calls Tryz.prog 60 #[.agg #[.slice AH cs.length cH], .agg #[.string ps[k].cls, .slice A5 ps[k].states.length c5, .int .i64 ps[k].start, .int .i64 ps[k].err, .slice A6 ps[k].moves.length c6]] x.W fun e w' => e = .returned (.int .i64 (fitP cs ps[k])) ∧ Below x.W.heap.size x.W w') := fun x => fitsProtocol_any cs ps[k] AH A5 A6 cH c5 c6 x.W hcs hml (hsl.mono (below_step hbw x.h)) (hs6.later x)
          have HF := Lib.hid (fitPF_at (cs := cs) hlt)
          have HHIT : Hid (fitP cs ps[k] ≠ 0 → r = ((rs.length : Int) + k, fitP cs ps[k])) := fun h => by rw [HR.out]; exact fitsR_ptc HPZ.out HNR.out hlt HN.out h
          have HPS : Hid (fitP cs ps[k] = 0 → firstE (fitPF cs ps) (k + 1) = 0) := fun h => firstE_pass HN.out (by rw [HF.out, h])
          clear HF
          generalize fitP cs ps[k] = fe at *
          go_wp2_with fail
          refine wp_region_later (by kernel_rfl) (by kernel_rfl) ?_
          repeat (go_big_quiet_step (first | (go_at_call 60; exact Calls.later (HC.out _))))
          refine wpQuiet_nil ?_
          rintro _ ⟨x, rfl⟩
          by_cases hfe : fe = 0
          · have HE := Lib.hid (HPS.out hfe)
            subst hfe
            go_wp2_with fail
            go_roundw
            case rel => exact ⟨k + 1, by omega, by go_num, HE, bx.mono x.h, bu.mono x.h, below_step hbw x.h⟩
            case measure => simp [intOf]; omega
          · have HB := Lib.hid (HHIT.out hfe)
            have tq : (fe != 0) = true := by simpa using hfe
            clear hfe
            go_wp2_with fail
            go_ret2
            exact ⟨HRET.out _ _ HB.out, below_step hbw x.h⟩
        · obtain rfl : k = ps.length := by omega
          have HB : Hid (r = (0, 0)) := by show _ = _; rw [HR.out]; exact fitsR_ok HPZ.out HNR.out HN.out
          go_wp2_with fail
          go_ret2
          exact ⟨HRET.out _ _ HB.out, hbw⟩
end Go.Proofs.YthabojhnliomnaaGreatDoor
