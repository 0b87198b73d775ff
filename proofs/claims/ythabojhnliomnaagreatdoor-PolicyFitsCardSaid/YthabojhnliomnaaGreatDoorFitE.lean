/-
  Chapter 42: the program's check of a policy against a hierarchy. (Printed by wip/gen/fitE.py.)
-/
import Derived.Test.YthabojhnliomnaaGreatDoorFitD
namespace Go.Proofs.YthabojhnliomnaaGreatDoor
open Go.RowKit
set_option linter.unusedVariables false

set_option maxRecDepth 100000 in
set_option maxHeartbeats 8000000 in
theorem fits_any (cs : List Cls) (p : Pol) (A A2 AH AF : Option Addr) (c c2 cH nF cF : Nat) (mn : Int) (w : World) (hkw : KwX w) (hcs : Hid (OkCs cs)) (hok : Hid (OkPol p)) (hc2 : p.protocols.length ≤ c2) (hcH : cs.length ≤ cH) (hs : Sl Lay.rul w A p.rules) (hs2 : Sl Lay.ptc w A2 p.protocols) (hsl : Sl Lay.cls w AH cs) :
    Calls Tryz.prog 20 #[.agg #[.slice A p.rules.length c, .slice A2 p.protocols.length c2], .agg #[.slice AH cs.length cH, .slice AF nF cF, .int .i64 mn]] w fun e w' => e = .returned (.tuple #[.int .i64 (fitsR cs p).1, .int .i64 (fitsR cs p).2]) ∧ Below w.heap.size w w' := by
  obtain ⟨r, HR⟩ : ∃ r, Hid (r = fitsR cs p) := ⟨_, Lib.hid rfl⟩
  rw [← HR.out]
  have HRET : Hid (∀ a b : Int, r = (a, b) → (Ending.returned (.tuple #[.int .i64 a, .int .i64 b]) = Ending.returned (.tuple #[.int .i64 r.1, .int .i64 r.2]))) := fun a b h => by rw [h]
  have HCK := Lib.hid (fun W h => polCheck_any p A A2 c c2 W hok (hkw.mono h) hc2 (hs.mono h) (hs2.mono h))
  have okr := Lib.hid hok.out.r
  have okp := Lib.hid hok.out.p
  have HLK := Lib.hid (fun (s m : ByteArray) (hs : okStr s) W h => lookup_any AH cH cs s m W hcs.out.1 hcH (hsl.mono h) (Lib.hid hcs.out.2.1) (Lib.hid hcs.out.2.2) hs)
  have hcl := hcs.out.1
  have HFD : Hid (∀ (s : ByteArray) (W : World), Below w.heap.size w W → Calls Tryz.prog 58 #[.agg #[.slice AH cs.length cH], .string s] W fun e w' => e = .returned (.int .i64 (fnd cs s)) ∧ Below W.heap.size W w') := fun s W h => find_any AH cH cs s W (by omega) (hsl.mono h)
  obtain ⟨q, HQ⟩ : ∃ q, Hid (q = polE p) := ⟨_, Lib.hid rfl⟩
  rw [← HQ.out] at HCK
  obtain ⟨q1, q2⟩ := q
  simp only at HCK
  have HBAD : Hid (q2 ≠ 0 → r = (q1, q2)) := fun h => by rw [HR.out, fitsR_bad (by rw [← HQ.out]; exact h), HQ.out]
  have HZ : Hid (q2 = 0 → (polE p).2 = 0) := fun h => by rw [← HQ.out]; exact h
  clear HQ
  obtain ⟨rs, ps⟩ := p
  simp only at hs hs2 hc2 ⊢
  have bx0 := Box.new w [.slice A rs.length c, .slice A2 ps.length c2] 25
  have bx1 := bx0.alloc (.cells #[.slice AH cs.length cH, .slice AF nF cF, .int .i64 mn] 45)
  have bu0 := Box.new (w.alloc (.cells #[.slice A rs.length c, .slice A2 ps.length c2] 25)) [.slice AH cs.length cH, .slice AF nF cF, .int .i64 mn] 45
  rw [show (w.alloc (.cells #[.slice A rs.length c, .slice A2 ps.length c2] 25)).heap.size = w.heap.size + 1 by simp] at bu0
  have hb0 : Below w.heap.size w ((w.alloc (.cells #[.slice A rs.length c, .slice A2 ps.length c2] 25)).alloc (.cells #[.slice AH cs.length cH, .slice AF nF cF, .int .i64 mn] 45)) := (by repeat (first | assumption | exact Below.refl _ _ | apply bw_alloc | apply bw_drew | apply bw_drewN | apply bw_later | apply bw_step))
  go_enter Tryz.func20, Tryz.ntmps20
  go_wp2_with fail
  refine (HCK.out _ hb0).mono ?_
  rintro e w1 ⟨rfl, hb1⟩
  have bx2 := bx1.mono hb1
  have bu2 := bu0.mono hb1
  have hbw1 := below_step hb0 hb1
  clear bx0 bx1 bu0 hb0 hb1 HCK
  by_cases hq : q2 = 0
  case neg =>
    have HB := Lib.hid (HBAD.out hq)
    have tq : (q2 != 0) = true := by simpa using hq
    clear hq
    go_wp2_with fail
    go_ret2
    exact ⟨HRET.out _ _ HB.out, hbw1⟩
  have HPZ := Lib.hid (HZ.out hq)
  subst hq
  have hlens := polE_lens HPZ.out
  simp only at hlens
  obtain ⟨hln, hlm⟩ := hlens
  clear HBAD HZ
  have p0 := bx2.cell 0 rfl
  have pl := bx2.lt
  go_wp2_with fail
  clear p0 pl
  go_loopw [33] (fun i wr => ∃ k : Nat, k ≤ rs.length ∧ i = .int .i64 k ∧ Hid (firstE (fitF cs rs) k = 0) ∧ Box wr w.heap.size [.slice A rs.length c, .slice A2 ps.length c2] 25 ∧ Box wr (w.heap.size + 1) [.slice AH cs.length cH, .slice AF nF cF, .int .i64 mn] 45 ∧ Below w.heap.size w wr) (fun i _ => rs.length - (intOf i).toNat)
  case atStart => exact ⟨0, Nat.zero_le _, rfl, Lib.hid rfl, bx2, bu2, hbw1⟩
  case round =>
    clear bx2 bu2 hbw1
    obtain ⟨k, hk, rfl, HN, bx, bu, hbw⟩ := hrel
    by_cases hlt : k < rs.length
    · obtain ⟨b, o, A5, c5, rfl, hb, d0, d1, d2, d3, d4, d5, d6, d7, hc5, hs5⟩ := (hs.mono hbw).rul_at hlt
      have hcs1 : okStr rs[k].cls := (okr.out _ (List.getElem_mem hlt)).1
      have HF := Lib.hid (fitF_at (cs := cs) hlt)
      have HHIT : Hid (fitE cs rs[k] ≠ 0 → r = ((k : Int), fitE cs rs[k])) := fun h => by rw [HR.out]; exact fitsR_rule HPZ.out hlt HN.out h
      have HPS : Hid (fitE cs rs[k] = 0 → firstE (fitF cs rs) (k + 1) = 0) := fun h => firstE_pass HN.out (by rw [HF.out, h])
      clear HF
      have bq := Box.new wr [.int .i64 rs[k].kind, .string rs[k].cls, .string rs[k].mth, .int .i64 rs[k].pth.root, .int .i64 rs[k].pth.n, .slice A5 rs[k].pth.fields.length c5, .bool rs[k].pth.star, .string rs[k].tag] 51
      have bxa := bx.alloc (.cells #[.int .i64 rs[k].kind, .string rs[k].cls, .string rs[k].mth, .int .i64 rs[k].pth.root, .int .i64 rs[k].pth.n, .slice A5 rs[k].pth.fields.length c5, .bool rs[k].pth.star, .string rs[k].tag] 51)
      have bua := bu.alloc (.cells #[.int .i64 rs[k].kind, .string rs[k].cls, .string rs[k].mth, .int .i64 rs[k].pth.root, .int .i64 rs[k].pth.n, .slice A5 rs[k].pth.fields.length c5, .bool rs[k].pth.star, .string rs[k].tag] 51)
      have hbwa : Below w.heap.size w (wr.alloc (.cells #[.int .i64 rs[k].kind, .string rs[k].cls, .string rs[k].mth, .int .i64 rs[k].pth.root, .int .i64 rs[k].pth.n, .slice A5 rs[k].pth.fields.length c5, .bool rs[k].pth.star, .string rs[k].tag] 51)) := bw_alloc hbw
      go_upto_region 7 with fail
      generalize hW : World.alloc wr _ = W2 at *
      clear hW d0 d1 d2 d3 d4 d5 d6 d7
      have r1' := bq.cell 1 rfl
      have r2' := bq.cell 2 rfl
      have rl := bq.lt
      have u0 := bua.cell 0 rfl
      have ul := bua.lt
      go_wp2_with fail
      refine (HLK.out _ _ hcs1 _ hbwa).mono ?_
      rintro e w3 ⟨hLR, hb3⟩
      have hV := hLR.toV hcs.out.2.2
      have bq3 := bq.mono hb3
      have bx3 := bxa.mono hb3
      have bu3 := bua.mono hb3
      have hbw3 := below_step hbwa hb3
      clear hLR r1' r2' rl u0 ul hb3 bq bxa bua hbwa
      cases hsg : sgL cs rs[k].cls rs[k].mth with
      | none =>
        have HB : Hid (r = ((k : Int), 6)) := by
          have e : fitE cs rs[k] = 6 := by rw [fitE, hsg]
          show _ = _
          rw [HHIT.out (by rw [e]; omega), e]
        obtain rfl := hV.no hsg
        unfold noLook
        clear hV hsg HHIT HPS
        have bq3a := bq3.alloc (.cells #[.string ByteArray.empty, .bool false, .slice none 0 0, .string ByteArray.empty] 98)
        have bu3a := bu3.alloc (.cells #[.string ByteArray.empty, .bool false, .slice none 0 0, .string ByteArray.empty] 98)
        have hbw3a : Below w.heap.size w (w3.alloc (.cells #[.string ByteArray.empty, .bool false, .slice none 0 0, .string ByteArray.empty] 98)) := bw_alloc hbw3
        go_upto_region 8 with fail
        generalize hW : World.alloc w3 _ = W4 at *
        clear hW
        have r1' := bq3a.cell 1 rfl
        have rl := bq3a.lt
        have u0 := bu3a.cell 0 rfl
        have ul := bu3a.lt
        go_wp2_with fail
        refine (HFD.out rs[k].cls _ hbw3a).mono ?_
        rintro e w4 ⟨rfl, hb4⟩
        generalize fnd cs rs[k].cls = fi at *
        by_cases hfi : fi < 0
        · go_wp2_with fail
          go_ret2
          exact ⟨HRET.out _ _ HB.out, below_step hbw3a hb4⟩
        · go_wp2_with fail
          go_ret2
          exact ⟨HRET.out _ _ HB.out, below_step hbw3a hb4⟩
      | some g =>
        have hfi : ¬ fnd cs rs[k].cls < 0 := fun h => by rw [sgL_lost h] at hsg; cases hsg
        obtain ⟨hpl, nm, A7, c7, rfl⟩ := hV.yes g hsg
        have HFE : Hid (fitE cs rs[k] = fitG g rs[k]) := by show _ = _; rw [fitE, hsg]
        have HHITG : Hid (∀ v : Int, v = fitG g rs[k] → v ≠ 0 → r = ((k : Int), v)) := fun v hv h => by rw [hv, ← HFE.out]; exact HHIT.out (by rw [HFE.out, ← hv]; exact h)
        have HPSG : Hid ((0 : Int) = fitG g rs[k] → firstE (fitF cs rs) (k + 1) = 0) := fun h => HPS.out (by rw [HFE.out, ← h])
        clear hV hsg HHIT HPS HFE
        have bq3a := bq3.alloc (.cells #[.string g.name, .bool g.static, .slice A7 g.params.length c7, .string g.result] 98)
        have bu3a := bu3.alloc (.cells #[.string g.name, .bool g.static, .slice A7 g.params.length c7, .string g.result] 98)
        have bx3a := bx3.alloc (.cells #[.string g.name, .bool g.static, .slice A7 g.params.length c7, .string g.result] 98)
        have bga := Box.new w3 [.string g.name, .bool g.static, .slice A7 g.params.length c7, .string g.result] 98
        have hbw3a : Below w.heap.size w (w3.alloc (.cells #[.string g.name, .bool g.static, .slice A7 g.params.length c7, .string g.result] 98)) := bw_alloc hbw3
        go_upto_region 8 with fail
        generalize hW : World.alloc w3 _ = W4 at *
        clear hW
        have r1' := bq3a.cell 1 rfl
        have rl := bq3a.lt
        have u0 := bu3a.cell 0 rfl
        have ul := bu3a.lt
        go_wp2_with fail
        refine (HFD.out rs[k].cls _ hbw3a).mono ?_
        rintro e w4 ⟨rfl, hb4⟩
        generalize fnd cs rs[k].cls = fi at *
        have bq4 := bq3a.mono hb4
        have bx4 := bx3a.mono hb4
        have bu4 := bu3a.mono hb4
        have bg4 := bga.mono hb4
        have hbw4 := below_step hbw3a hb4
        clear r1' rl u0 ul bq3 bx3 bu3 bq3a bx3a bu3a bga hbw3 hbw3a
        have r3' := bq4.cell 3 rfl
        have r4' := bq4.cell 4 rfl
        have rl := bq4.lt
        have g1 := bg4.cell 1 rfl
        have g2 := bg4.cell 2 rfl
        have g3 := bg4.cell 3 rfl
        have gl := bg4.lt
        have HG : Hid (∀ v : Int, (v = if rs[k].pth.root = 1 ∧ cntG g ≤ rs[k].pth.n then 4 else if rs[k].pth.root = 2 ∧ g.result.toList.isEmpty = true then 8 else 0) → v = fitG g rs[k]) := fun v hv => hv
        have hcn : cntG g = (g.params.length : Int) + (if g.static then 0 else 1) := rfl
        cases hst : g.static with
        | true =>
          rw [hst, if_pos rfl, Int.add_zero] at hcn
          rw [hst] at g1
          have HCN := Lib.hid hcn
          clear hcn
          by_cases r1 : rs[k].pth.root = 1
          · have r2 : True := trivial
            have t1 : (rs[k].pth.root == 1) = true := by simpa using r1
            have t2 : (rs[k].pth.root == 2) = false := by rw [r1]; rfl
            by_cases hN : (g.params.length : Int) ≤ rs[k].pth.n
            ·
              have HV : Hid ((4 : Int) = fitG g rs[k]) := HG.out _ (by rw [if_pos ⟨r1, by rw [HCN.out]; exact hN⟩])
              have HB : Hid (r = ((k : Int), 4)) := HHITG.out 4 HV.out (by decide)
              clear r1 r2
              go_wp2_with fail
              go_ret2
              exact ⟨HRET.out _ _ HB.out, hbw4⟩
            ·
              have HV : Hid ((0 : Int) = fitG g rs[k]) := HG.out _ (by rw [if_neg (fun h => hN (by rw [← HCN.out]; exact h.2)), if_neg (by omega)])
              have HE : Hid (firstE (fitF cs rs) (k + 1) = 0) := HPSG.out HV.out
              clear r1 r2
              go_wp2_with fail
              go_roundw
              case rel => exact ⟨k + 1, by omega, by go_num, HE, bx4, bu4, hbw4⟩
              case measure => simp [intOf]; omega
          · have t1 : (rs[k].pth.root == 1) = false := by simpa using r1
            by_cases r2 : rs[k].pth.root = 2
            · have t2 : (rs[k].pth.root == 2) = true := by simpa using r2
              cases he : g.result.toList.isEmpty with
              | true =>
                have HV : Hid ((8 : Int) = fitG g rs[k]) := HG.out _ (by rw [if_neg (fun h => r1 h.1), if_pos ⟨r2, he⟩])
                have HB : Hid (r = ((k : Int), 8)) := HHITG.out 8 HV.out (by decide)
                clear r1 r2
                go_wp2_with fail
                go_ret2
                exact ⟨HRET.out _ _ HB.out, hbw4⟩
              | false =>
                have HV : Hid ((0 : Int) = fitG g rs[k]) := HG.out _ (by rw [if_neg (fun h => r1 h.1), if_neg (fun h => by rw [he] at h; simp at h)])
                have HE : Hid (firstE (fitF cs rs) (k + 1) = 0) := HPSG.out HV.out
                clear r1 r2
                go_wp2_with fail
                go_roundw
                case rel => exact ⟨k + 1, by omega, by go_num, HE, bx4, bu4, hbw4⟩
                case measure => simp [intOf]; omega
            · have t2 : (rs[k].pth.root == 2) = false := by simpa using r2
              have HV : Hid ((0 : Int) = fitG g rs[k]) := HG.out _ (by rw [if_neg (fun h => r1 h.1), if_neg (fun h => r2 h.1)])
              have HE : Hid (firstE (fitF cs rs) (k + 1) = 0) := HPSG.out HV.out
              clear r1 r2
              go_wp2_with fail
              go_roundw
              case rel => exact ⟨k + 1, by omega, by go_num, HE, bx4, bu4, hbw4⟩
              case measure => simp [intOf]; omega
        | false =>
          rw [hst, if_neg (by simp)] at hcn
          rw [hst] at g1
          have HCN := Lib.hid hcn
          clear hcn
          by_cases r1 : rs[k].pth.root = 1
          · have r2 : True := trivial
            have t1 : (rs[k].pth.root == 1) = true := by simpa using r1
            have t2 : (rs[k].pth.root == 2) = false := by rw [r1]; rfl
            by_cases hN : (g.params.length : Int) + 1 ≤ rs[k].pth.n
            ·
              have HV : Hid ((4 : Int) = fitG g rs[k]) := HG.out _ (by rw [if_pos ⟨r1, by rw [HCN.out]; exact hN⟩])
              have HB : Hid (r = ((k : Int), 4)) := HHITG.out 4 HV.out (by decide)
              clear r1 r2
              go_wp2_with fail
              go_ret2
              exact ⟨HRET.out _ _ HB.out, hbw4⟩
            ·
              have HV : Hid ((0 : Int) = fitG g rs[k]) := HG.out _ (by rw [if_neg (fun h => hN (by rw [← HCN.out]; exact h.2)), if_neg (by omega)])
              have HE : Hid (firstE (fitF cs rs) (k + 1) = 0) := HPSG.out HV.out
              clear r1 r2
              go_wp2_with fail
              go_roundw
              case rel => exact ⟨k + 1, by omega, by go_num, HE, bx4, bu4, hbw4⟩
              case measure => simp [intOf]; omega
          · have t1 : (rs[k].pth.root == 1) = false := by simpa using r1
            by_cases r2 : rs[k].pth.root = 2
            · have t2 : (rs[k].pth.root == 2) = true := by simpa using r2
              cases he : g.result.toList.isEmpty with
              | true =>
                have HV : Hid ((8 : Int) = fitG g rs[k]) := HG.out _ (by rw [if_neg (fun h => r1 h.1), if_pos ⟨r2, he⟩])
                have HB : Hid (r = ((k : Int), 8)) := HHITG.out 8 HV.out (by decide)
                clear r1 r2
                go_wp2_with fail
                go_ret2
                exact ⟨HRET.out _ _ HB.out, hbw4⟩
              | false =>
                have HV : Hid ((0 : Int) = fitG g rs[k]) := HG.out _ (by rw [if_neg (fun h => r1 h.1), if_neg (fun h => by rw [he] at h; simp at h)])
                have HE : Hid (firstE (fitF cs rs) (k + 1) = 0) := HPSG.out HV.out
                clear r1 r2
                go_wp2_with fail
                go_roundw
                case rel => exact ⟨k + 1, by omega, by go_num, HE, bx4, bu4, hbw4⟩
                case measure => simp [intOf]; omega
            · have t2 : (rs[k].pth.root == 2) = false := by simpa using r2
              have HV : Hid ((0 : Int) = fitG g rs[k]) := HG.out _ (by rw [if_neg (fun h => r1 h.1), if_neg (fun h => r2 h.1)])
              have HE : Hid (firstE (fitF cs rs) (k + 1) = 0) := HPSG.out HV.out
              clear r1 r2
              go_wp2_with fail
              go_roundw
              case rel => exact ⟨k + 1, by omega, by go_num, HE, bx4, bu4, hbw4⟩
              case measure => simp [intOf]; omega
    · obtain rfl : k = rs.length := by omega
      have HNR : Hid (firstE (fitF cs rs) rs.length = 0) := HN.out
      clear HN hlt hk
      have p1 := bx.cell 1 rfl
      have pl := bx.lt
      go_wp2_with fail
      clear p1 pl
      obtain ⟨wo, rfl⟩ : ∃ wo : World, wo = wr := ⟨_, rfl⟩
      go_loopw [94] (fun i wr => ∃ k : Nat, k ≤ ps.length ∧ i = .int .i64 k ∧ Hid (firstE (fitPF cs ps) k = 0) ∧ Box wr w.heap.size [.slice A rs.length c, .slice A2 ps.length c2] 25 ∧ Box wr (w.heap.size + 1) [.slice AH cs.length cH, .slice AF nF cF, .int .i64 mn] 45 ∧ Below w.heap.size w wr) (fun i _ => ps.length - (intOf i).toNat)
      case atStart => exact ⟨0, Nat.zero_le _, rfl, Lib.hid rfl, bx, bu, hbw⟩
      case round =>
        clear bx bu hbw
        obtain ⟨k, hk, rfl, HN, bx, bu, hbw⟩ := hrel
        by_cases hlt : k < ps.length
        case neg =>
          obtain rfl : k = ps.length := by omega
          have HB : Hid (r = (0, 0)) := by show _ = _; rw [HR.out]; exact fitsR_ok HPZ.out HNR.out HN.out
          go_wp2_with fail
          go_ret2
          exact ⟨HRET.out _ _ HB.out, hbw⟩
        obtain ⟨b, o, A5, c5, A6, c6, rfl, hb, d0, d1, d2, d3, d4, hc5, hs5, hc6, hs6⟩ := (hs2.mono hbw).ptc_at hlt
        have hml := (okp.out _ (List.getElem_mem hlt)).2.2.2.1
        have hcs1 : okStr ps[k].cls := (okp.out _ (List.getElem_mem hlt)).1
        have HF := Lib.hid (fitPF_at (cs := cs) hlt)
        have HHIT : Hid (fitP cs ps[k] = 6 → r = ((rs.length : Int) + k, 6)) := fun h => by rw [HR.out, fitsR_ptc HPZ.out HNR.out hlt HN.out (by rw [h]; omega), h]
        have HPS : Hid (fitP cs ps[k] = 0 → firstE (fitPF cs ps) (k + 1) = 0) := fun h => firstE_pass HN.out (by rw [HF.out, h])
        have HFP : Hid (fitP cs ps[k] = if fnd cs ps[k].cls < 0 then 6 else firstE (fitMF cs ps[k].cls ps[k].moves) ps[k].moves.length) := rfl
        clear HF
        have bq := Box.new wr [.string ps[k].cls, .slice A5 ps[k].states.length c5, .int .i64 ps[k].start, .int .i64 ps[k].err, .slice A6 ps[k].moves.length c6] 63
        have bxa := bx.alloc (.cells #[.string ps[k].cls, .slice A5 ps[k].states.length c5, .int .i64 ps[k].start, .int .i64 ps[k].err, .slice A6 ps[k].moves.length c6] 63)
        have bua := bu.alloc (.cells #[.string ps[k].cls, .slice A5 ps[k].states.length c5, .int .i64 ps[k].start, .int .i64 ps[k].err, .slice A6 ps[k].moves.length c6] 63)
        have hbwa : Below w.heap.size w (wr.alloc (.cells #[.string ps[k].cls, .slice A5 ps[k].states.length c5, .int .i64 ps[k].start, .int .i64 ps[k].err, .slice A6 ps[k].moves.length c6] 63)) := bw_alloc hbw
        have hs6a : Sl Lay.mov (wr.alloc (.cells #[.string ps[k].cls, .slice A5 ps[k].states.length c5, .int .i64 ps[k].start, .int .i64 ps[k].err, .slice A6 ps[k].moves.length c6] 63)) A6 ps[k].moves := hs6.mono (bw_alloc (Below.refl _ _))
        go_upto_region 21 with fail
        generalize hW : World.alloc wr _ = W2 at *
        clear hW d0 d1 d2 d3 d4
        have r0' := bq.cell 0 rfl
        have rl := bq.lt
        have u0 := bua.cell 0 rfl
        have ul := bua.lt
        go_wp2_with fail
        refine (HFD.out ps[k].cls _ hbwa).mono ?_
        rintro e w4 ⟨rfl, hb4⟩
        have bq4 := bq.mono hb4
        have bx4 := bxa.mono hb4
        have bu4 := bua.mono hb4
        have hs64 := hs6a.mono hb4
        have hbw4 := below_step hbwa hb4
        clear r0' rl u0 ul bq bxa bua hs6a hbwa
        have b0' := bx4.cell 0 rfl
        have bl := bx4.lt
        by_cases hfi : fnd cs ps[k].cls < 0
        · have HB := Lib.hid (HHIT.out (by rw [HFP.out, if_pos hfi]))
          generalize fnd cs ps[k].cls = fi at *
          go_wp2_with fail
          go_ret2
          exact ⟨HRET.out _ _ HB.out, hbw4⟩
        have HFP2 : Hid (fitP cs ps[k] = firstE (fitMF cs ps[k].cls ps[k].moves) ps[k].moves.length) := by show _ = _; rw [HFP.out, if_neg hfi]
        clear HFP
        generalize fnd cs ps[k].cls = fi at *
        have r4' := bq4.cell 4 rfl
        have rl := bq4.lt
        go_wp2_with fail
        clear r4' rl b0' bl hfi
        obtain ⟨wq, rfl⟩ : ∃ wq : World, wq = wr := ⟨_, rfl⟩
        go_loopw [113] (fun i wr => ∃ j : Nat, j ≤ ps[k].moves.length ∧ i = .int .i64 j ∧ Hid (firstE (fitMF cs ps[k].cls ps[k].moves) j = 0) ∧ Below w4.heap.size w4 wr) (fun i _ => ps[k].moves.length - (intOf i).toNat)
        case atStart => exact ⟨0, Nat.zero_le _, rfl, Lib.hid rfl, Below.refl _ _⟩
        case round =>
          obtain ⟨j, hj, rfl, HM, hbr⟩ := hrel
          have bq5 := bq4.mono hbr
          have bx5 := bx4.mono hbr
          have bu5 := bu4.mono hbr
          have hbw5 := below_step hbw4 hbr
          by_cases hjl : j < ps[k].moves.length
          case neg =>
            have HE := Lib.hid (HPS.out (by rw [HFP2.out, ← show j = ps[k].moves.length by omega]; exact HM.out))
            go_wp2_with fail
            go_roundw
            case rel => exact ⟨k + 1, by omega, by go_num, HE, bx5, bu5, hbw5⟩
            case measure => simp [intOf]; omega
          obtain ⟨bM, oM, rfl, hbM, m0, m1, m2⟩ := (hs64.mono hbr).mov_at hjl
          have HFM := Lib.hid (fitMF_at (cs := cs) (cl := ps[k].cls) hjl)
          have HBY : Hid (fitMF cs ps[k].cls ps[k].moves j = 6 → r = ((rs.length : Int) + k, 6)) := fun h => HHIT.out (by rw [HFP2.out, firstE_hit HM.out (by rw [h]; omega) hjl, h])
          have HBN : Hid (fitMF cs ps[k].cls ps[k].moves j = 0 → firstE (fitMF cs ps[k].cls ps[k].moves) (j + 1) = 0) := fun h => firstE_pass HM.out h
          have bm := Box.new wr [.int .i64 ps[k].moves[j].src, .string ps[k].moves[j].mth, .int .i64 ps[k].moves[j].dst] 103
          have bq5a := bq5.alloc (.cells #[.int .i64 ps[k].moves[j].src, .string ps[k].moves[j].mth, .int .i64 ps[k].moves[j].dst] 103)
          have bu5a := bu5.alloc (.cells #[.int .i64 ps[k].moves[j].src, .string ps[k].moves[j].mth, .int .i64 ps[k].moves[j].dst] 103)
          have bx5a := bx5.alloc (.cells #[.int .i64 ps[k].moves[j].src, .string ps[k].moves[j].mth, .int .i64 ps[k].moves[j].dst] 103)
          have hbr5a : Below w4.heap.size w4 (wr.alloc (.cells #[.int .i64 ps[k].moves[j].src, .string ps[k].moves[j].mth, .int .i64 ps[k].moves[j].dst] 103)) := bw_alloc hbr
          go_upto_region 26 with fail
          generalize hW : World.alloc wr _ = W6 at *
          clear hW m0 m1 m2
          have n1 := bm.cell 1 rfl
          have nl := bm.lt
          have r0' := bq5a.cell 0 rfl
          have rl := bq5a.lt
          have u0 := bu5a.cell 0 rfl
          have ul := bu5a.lt
          go_wp2_with fail
          refine (HLK.out _ _ hcs1 _ (below_step hbw4 hbr5a)).mono ?_
          rintro e w7 ⟨hLR, hb7⟩
          have hV := hLR.toV hcs.out.2.2
          have bx7 := bx5a.mono hb7
          have hbr7 := below_step hbr5a hb7
          clear hLR n1 nl r0' rl u0 ul bq5a bu5a bx5a bm bq5 bx5 bu5
          have b0' := bx7.cell 0 rfl
          have bl := bx7.lt
          cases hsg : sgL cs ps[k].cls ps[k].moves[j].mth with
          | none =>
            have HB := Lib.hid (HBY.out (by rw [HFM.out, fitM, hsg]))
            obtain rfl := hV.no hsg
            unfold noLook
            clear hV hsg
            go_wp2_with fail
            go_ret2
            exact ⟨HRET.out _ _ HB.out, bw_alloc (below_step hbw4 hbr7)⟩
          | some g =>
            obtain ⟨hpl, nm, A7, c7, rfl⟩ := hV.yes g hsg
            cases hst : g.static with
            | true =>
              have HB := Lib.hid (HBY.out (by rw [HFM.out, fitM, hsg]; show (if g.static = true then (6 : Int) else 0) = 6; rw [hst, if_pos rfl]))
              clear hV hsg
              go_wp2_with fail
              go_ret2
              exact ⟨HRET.out _ _ HB.out, bw_alloc (below_step hbw4 hbr7)⟩
            | false =>
              have HE := Lib.hid (HBN.out (by rw [HFM.out, fitM, hsg]; show (if g.static = true then (6 : Int) else 0) = 0; rw [hst, if_neg (by simp)]))
              clear hV hsg
              go_wp2_with fail
              go_roundw
              case rel => exact ⟨j + 1, by omega, by go_num, HE, bw_alloc hbr7⟩
              case measure => simp [intOf]; omega
set_option maxRecDepth 100000 in
set_option maxHeartbeats 2000000 in
theorem walk_PolicyFits (cs : List Cls) (p : Pol) (A A2 AH AF : Option Addr) (c c2 cH nF cF : Nat) (mn : Int) (w : World) (hg : Glob w) (hcs : Hid (OkCs cs)) (hok : Hid (OkPol p)) (hc2 : p.protocols.length ≤ c2) (hcH : cs.length ≤ cH) (hs : Sl Lay.rul w A p.rules) (hs2 : Sl Lay.ptc w A2 p.protocols) (hsl : Sl Lay.cls w AH cs) :
    Calls Tryz.prog 8 #[.agg #[.slice A p.rules.length c, .slice A2 p.protocols.length c2], .agg #[.slice AH cs.length cH, .slice AF nF cF, .int .i64 mn]] w fun e w' => e = .returned (.bool true) ∧ Below w.heap.size w w' := by
  have bx0 := Box.new w [.slice A p.rules.length c, .slice A2 p.protocols.length c2] 25
  have bx1 := bx0.alloc (.cells #[.slice AH cs.length cH, .slice AF nF cF, .int .i64 mn] 45)
  have bu0 := Box.new (w.alloc (.cells #[.slice A p.rules.length c, .slice A2 p.protocols.length c2] 25)) [.slice AH cs.length cH, .slice AF nF cF, .int .i64 mn] 45
  rw [show (w.alloc (.cells #[.slice A p.rules.length c, .slice A2 p.protocols.length c2] 25)).heap.size = w.heap.size + 1 by simp] at bu0
  have hb0 : Below w.heap.size w ((w.alloc (.cells #[.slice A p.rules.length c, .slice A2 p.protocols.length c2] 25)).alloc (.cells #[.slice AH cs.length cH, .slice AF nF cF, .int .i64 mn] 45)) := (by repeat (first | assumption | exact Below.refl _ _ | apply bw_alloc | apply bw_drew | apply bw_drewN | apply bw_later | apply bw_step))
  have HA := Lib.hid (fun W h => fits_any cs p A A2 AH AF c c2 cH nF cF mn W (hg.mono h).kw hcs hok hc2 hcH (hs.mono h) (hs2.mono h) (hsl.mono h))
  have HB := Lib.hid (fun W h => refFits_any cs p A A2 AH AF c c2 cH nF cF mn W hcs hok hc2 (hs.mono h) (hs2.mono h) (hsl.mono h))
  generalize fitsR cs p = r at *
  obtain ⟨r1, r2⟩ := r
  have t1 : (r1 == r1) = true := by simp
  have t2 : (r2 == r2) = true := by simp
  go_enter Tryz.func8, Tryz.ntmps8
  go_wp2_with fail
  refine (HA.out _ hb0).mono ?_
  rintro e w1 ⟨rfl, hb1⟩
  have bx2 := bx1.mono hb1
  have bu2 := bu0.mono hb1
  have hbw1 := below_step hb0 hb1
  have p0 := bx2.cell 0 rfl
  have p1 := bx2.cell 1 rfl
  have pl := bx2.lt
  have u0 := bu2.cell 0 rfl
  have u1 := bu2.cell 1 rfl
  have u2 := bu2.cell 2 rfl
  have ul := bu2.lt
  go_wp2_with fail
  refine (HB.out _ hbw1).mono ?_
  rintro e w2 ⟨rfl, hb2⟩
  have hbw2 := below_step hbw1 hb2
  go_wp2_with fail
  refine (awake_any _ (hg.mono hbw2)).mono ?_
  rintro e w3 ⟨rfl, hb3⟩
  go_wp2_with fail
  go_ret
  exact ⟨rfl, below_step hbw2 hb3⟩
end Go.Proofs.YthabojhnliomnaaGreatDoor
