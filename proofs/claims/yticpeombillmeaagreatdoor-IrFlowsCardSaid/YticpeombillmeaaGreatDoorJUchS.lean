/-
  Chapter 13: Check: the function, the instruction and the error of a unit.
-/
import Derived.Test.YticpeombillmeaaGreatDoorJUo
namespace Go.Proofs.YticpeombillmeaaGreatDoor
open Go.RowKit
set_option linter.unusedVariables false

theorem mthL_len (cs : List Cls) : (mthL cs).length = mthN cs := by
  induction cs with
  | nil => rfl
  | cons c r ih => unfold mthL at *; rw [List.flatMap_cons, List.length_append, ih, mthN, List.length_map]
theorem mthL_at {cs : List Cls} {j q : Nat} (hj : j < cs.length) (hq : q < cs[j].methods.length) : (mthL cs)[mthN (cs.take j) + q]? = some (cs[j].name, cs[j].methods[q]) := by
  induction cs generalizing j with
  | nil => simp at hj
  | cons c r ih =>
    unfold mthL at *
    rw [List.flatMap_cons]
    cases j with
    | zero =>
      simp only [List.getElem_cons_zero] at hq ⊢
      rw [List.take_zero, mthN, Nat.zero_add, List.getElem?_append_left (by rw [List.length_map]; exact hq), List.getElem?_map, List.getElem?_eq_getElem hq]
      rfl
    | succ j =>
      simp only [List.getElem_cons_succ] at hq ⊢
      rw [List.take_succ_cons, mthN, List.getElem?_append_right (by rw [List.length_map]; omega), List.length_map]
      have := ih (j := j) (by simpa using hj) hq
      rw [← this]
      congr 1
      omega
theorem mthN_lt {cs : List Cls} {j q : Nat} (hj : j < cs.length) (hq : q < cs[j].methods.length) : mthN (cs.take j) + q < mthN cs := by
  have := mthL_at hj hq
  rw [← mthL_len cs]
  exact (List.getElem?_eq_some_iff.1 this).1
theorem siteN_take {fs : List Fun} {k : Nat} (hk : k < fs.length) : siteN (fs.take (k + 1)) = siteN (fs.take k) + newN fs[k].code := by
  induction fs generalizing k with
  | nil => simp at hk
  | cons f r ih =>
    cases k with
    | zero => simp [siteN]
    | succ k =>
      have := ih (k := k) (by simpa using hk)
      rw [List.take_succ_cons, List.take_succ_cons, siteN, siteN, this, List.getElem_cons_succ]
      omega
theorem newN_take {code : List Ins} {i : Nat} (hi : i < code.length) : newN (code.take (i + 1)) = newN (code.take i) + if code[i].op == 6 then 1 else 0 := by
  unfold newN
  rw [List.take_succ_eq_append_getElem hi, List.countP_append, List.countP_singleton]
  cases h : (code[i].op == 6) with
  | true => have : code[i].op = 6 := by simpa using h
            simp [this]
  | false => have : code[i].op ≠ 6 := by simpa using h
             simp [this]
theorem fcF_at {u : Unt} {k : Nat} {p : ByteArray × Sg} (hk : k < u.funcs.length) (hp : (mthL u.classes)[k]? = some p) : fcF u k = fcE u.classes p.1 p.2 u.funcs[k] := by
  unfold fcF; rw [hp, List.getElem?_eq_getElem hk]
theorem fcE_fun {cs : List Cls} {cl : ByteArray} {m : Sg} {f : Fun} (h : funE cs cl m f ≠ 0) : fcE cs cl m f = (-1, funE cs cl m f) := by unfold fcE; rw [if_pos h]
theorem fcE_ins {cs : List Cls} {cl : ByteArray} {m : Sg} {f : Fun} (h : funE cs cl m f = 0) {i : Nat} (h0 : frst (insF cs f) i = 0) (hi : insF cs f i ≠ 0) (hl : i < f.code.length) : fcE cs cl m f = ((i : Int), insF cs f i) := by
  unfold fcE; rw [if_neg (by simpa using h), frstP_hit h0 hi hl]
theorem fcE_ok {cs : List Cls} {cl : ByteArray} {m : Sg} {f : Fun} (h : funE cs cl m f = 0) (h0 : frst (insF cs f) f.code.length = 0) : fcE cs cl m f = (0, 0) := by
  unfold fcE; rw [if_neg (by simpa using h), frstP_none h0]
theorem chkE_hit {u : Unt} (h : uniE u = 0) {k : Nat} (h0 : frst (fun k => (fcF u k).2) k = 0) (hk : (fcF u k).2 ≠ 0) (hl : k < u.funcs.length) : chkE u = ((k : Int), (fcF u k).1, (fcF u k).2) := by
  unfold chkE; rw [if_neg (by simpa using h), frstP_hit h0 hk hl]
theorem chkE_end {u : Unt} (h : uniE u = 0) (h0 : frst (fun k => (fcF u k).2) u.funcs.length = 0) : chkE u = if 1024 < siteN u.funcs then (-1, -1, 3) else (0, 0, 0) := by
  unfold chkE; rw [if_neg (by simpa using h), frstP_none h0]
theorem funE_code {cs : List Cls} {cl : ByteArray} {m : Sg} {f : Fun} (h : funE cs cl m f = 0) : belB cl m f = true ∧ f.vars.length ≤ 256 ∧ f.code.length ≤ 1024 ∧ (∀ i (hi : i < f.vars.length), vrE cs f.static i f.vars[i] = 0) ∧ 0 < f.code.length := by
  unfold funE at h
  split at h
  · cases h
  rename_i h1
  split at h
  · cases h
  rename_i h2
  split at h
  · rename_i h3; exact absurd h h3
  rename_i h3
  split at h
  · cases h
  rename_i h4
  refine ⟨by simpa using h1, by omega, by omega, fun i hi => ?_, by omega⟩
  rw [← vrF_at hi]
  exact frst_all (by simpa using h3) i hi
theorem uniE_parts {u : Unt} (h : uniE u = 0) : (hierE u.classes).2 = 0 ∧ u.funcs.length ≤ 256 ∧ u.funcs.length = mthN u.classes ∧ 0 ≤ u.main ∧ u.main < u.funcs.length ∧ ∃ f, u.funcs[u.main.toNat]? = some f ∧ mainB f = true := by
  unfold uniE at h
  split at h
  · rename_i h1; exact absurd h h1
  rename_i h1
  split at h
  · cases h
  rename_i h2
  split at h
  · cases h
  rename_i h3
  split at h
  · cases h
  rename_i h4
  split at h
  · rename_i f hf
    split at h
    · rename_i hm; exact ⟨by simpa using h1, by omega, by omega, by omega, by omega, f, hf, hm⟩
    · cases h
  · cases h
def tri (q : Int × Int × Int) : Ending := .returned (.tuple #[.int .i64 q.1, .int .i64 q.2.1, .int .i64 q.2.2])

set_option maxRecDepth 100000 in
set_option maxHeartbeats 2000000 in
theorem check_any (u : Unt) (A0 A1 : Option Addr) (c0 c1 : Nat) (w : World) (H : Hid (UnH w u A0 A1 c0)) :
    Calls Tryz.prog 13 #[.agg #[.slice A0 u.classes.length c0, .slice A1 u.funcs.length c1, .int .i64 u.main]] w fun e w' => e = tri (chkE u) ∧ Below w.heap.size w w' := by
  obtain ⟨r, HR⟩ : ∃ r, Hid (r = chkE u) := ⟨_, Lib.hid rfl⟩
  rw [← HR.out]
  go_enter Tryz.func13, Tryz.ntmps13
  go_upto_region 1 with fail
  generalize hW : World.alloc _ _ = W1 at *
  have hb1 : Below w.heap.size w W1 := by rw [← hW]; exact (by repeat (first | assumption | exact Below.refl _ _ | apply bw_alloc | apply bw_drew | apply bw_drewN | apply bw_later | apply bw_step))
  have bu : Box W1 w.heap.size [.slice A0 u.classes.length c0, .slice A1 u.funcs.length c1, .int .i64 u.main] 27 := by rw [← hW]; exact (by repeat (first | (refine Box.at ?_; (simp; done)) | apply Box.drew | apply Box.alloc | assumption))
  clear hW
  have u0 := bu.cell 0 rfl
  have u1 := bu.cell 1 rfl
  have u2 := bu.cell 2 rfl
  have ul := bu.lt
  go_wp2_with fail
  refine (unitError_any u A0 A1 c0 c1 _ (Lib.hid (H.out.mono hb1))).mono ?_
  rintro e w2 ⟨rfl, hq2⟩
  have hb2 := below_step hb1 hq2
  have bu2 := bu.mono hq2
  clear u0 u1 u2 ul bu hq2
  by_cases he : uniE u ≠ 0
  · have HB : Hid (r = (-1, -1, uniE u)) := by show r = _; rw [HR.out]; unfold chkE; rw [if_pos he]
    have he' : (uniE u != 0) = true := by simpa using he
    clear he
    go_wp2_with fail
    go_ret3
    exact ⟨by rw [HB.out]; rfl, hb2⟩
  replace he : uniE u = 0 := Classical.not_not.1 he
  have HU := Lib.hid he
  obtain ⟨hh0, hf256, hfm, _, _, _⟩ := uniE_parts he
  obtain ⟨h64, hcls⟩ := hierE_valid hh0
  have HCL := Lib.hid hcls
  have HFM := Lib.hid hfm
  have he' : (uniE u != 0) = false := by simpa using he
  clear he hcls hh0 hfm
  have u0 := bu2.cell 0 rfl
  have ul := bu2.lt
  go_wp2_with fail
  clear u0 ul he'
  go_loopw [6, 7, 25] (fun v6 v7 i wr => ∃ j n s : Nat, j ≤ u.classes.length ∧ i = .int .i64 j ∧ v6 = .int .i64 n ∧ v7 = .int .i64 s ∧ n ≤ 256 ∧ s ≤ 1024 * n ∧ Hid (n = mthN (u.classes.take j)) ∧ Hid (s = siteN (u.funcs.take n)) ∧ Hid (frst (fun k => (fcF u k).2) n = 0) ∧ Below w2.heap.size w2 wr) (fun _ _ i _ => u.classes.length - (intOf i).toNat)
  case atStart => exact ⟨0, 0, 0, Nat.zero_le _, rfl, rfl, rfl, by omega, by omega, Lib.hid rfl, Lib.hid rfl, Lib.hid rfl, Below.refl _ _⟩
  case round =>
    obtain ⟨j, n0, s0, hj, rfl, rfl, rfl, hn0, hs0, HN0, HS0, HF0, hbw⟩ := hrel
    have hbw3 := below_step hb2 hbw
    have bu3 := bu2.mono hbw
    by_cases hlt : j < u.classes.length
    · obtain ⟨b0, o, A2, cc2, A3, cc3, hA, hb, d0, d1, d2, d3, hc2, hs2, hc3, hs3⟩ := (H.out.hs.mono hbw3).cls_at hlt
      subst hA
      have HPC := Lib.hid (clsE_parts (HCL.out j hlt))
      have hm16 := HPC.out.1.2
      have HMT := Lib.hid (@mthN_take u.classes j hlt)
      have HMA := Lib.hid (@mthL_at u.classes j · hlt)
      have HML := Lib.hid (@mthN_lt u.classes j · hlt)
      generalize u.classes[j] = c at *
      go_upto_region 8 with fail
      generalize hW : World.alloc _ _ = W4 at *
      have h34 : Below wr.heap.size wr W4 := by rw [← hW]; exact bw_alloc (Below.refl _ _)
      have bc : Box W4 wr.heap.size [.string c.name, .string c.super, .slice A2 c.fields.length cc2, .slice A3 c.methods.length cc3] 64 := by rw [← hW]; exact (by repeat (first | (refine Box.at ?_; (simp; done)) | apply Box.drew | apply Box.alloc | assumption))
      clear hW d0 d1 d2 d3 hb
      have hbw4 := below_step hbw3 h34
      have hb24 := below_step hbw h34
      have bu4 := bu3.mono h34
      have hs3' := hs3.mono h34
      have c3 := bc.cell 3 rfl
      have cl := bc.lt
      go_wp2_with fail
      clear c3 cl
      go_loopw [6, 7, 32] (fun v6 v7 i wz => ∃ q n s : Nat, q ≤ c.methods.length ∧ i = .int .i64 q ∧ v6 = .int .i64 n ∧ v7 = .int .i64 s ∧ n ≤ 256 ∧ s ≤ 1024 * n ∧ Hid (n = n0 + q) ∧ Hid (s = siteN (u.funcs.take n)) ∧ Hid (frst (fun k => (fcF u k).2) n = 0) ∧ Below W4.heap.size W4 wz) (fun _ _ i _ => c.methods.length - (intOf i).toNat)
      case atStart => exact ⟨0, n0, s0, Nat.zero_le _, rfl, rfl, rfl, hn0, hs0, Lib.hid rfl, HS0, HF0, Below.refl _ _⟩
      case round =>
        obtain ⟨q, n, s, hq, rfl, rfl, rfl, hn, hs, HN, HS, HF, hbz⟩ := hrel
        have hbw5 := below_step hbw4 hbz
        have bu5 := bu4.mono hbz
        have bc5 := bc.mono hbz
        by_cases hqt : q < c.methods.length
        · have hnl : n < u.funcs.length := by
            have h1 := HML.out q hqt
            have h2 := HN.out
            have h3 := HN0.out
            have h4 := HFM.out
            omega
          have hp6 := (mthE_parts (HPC.out.2.2.2.2.2.2 q hqt)).2.2.1
          have HFC : Hid (fcF u n = fcE u.classes c.name c.methods[q] u.funcs[n]) := by
            show _ = _
            rw [fcF_at hnl (p := (c.name, c.methods[q])) (by rw [HN.out, HN0.out]; exact HMA.out q hqt)]
          have HSN := Lib.hid (siteN_take hnl)
          have hfok := Lib.hid (H.out.hfo _ (List.getElem_mem hnl))
          obtain ⟨bM, oM, A4, cc4, hA, hbM, m0, m1, m2, m3, hc4, hs4⟩ := (hs3'.mono hbz).sg_at hqt
          subst hA
          obtain ⟨bF, oF, A5, cc5, A6, cc6, hA, hbF, d0, d1, d2, d3, d4, d5, d6, hc5, hs5, hc6, hs6⟩ := (H.out.hf.mono hbw5).fun_at hnl
          subst hA
          have hnI : (n : Int) < u.funcs.length := by omega
          generalize c.methods[q] = m at *
          generalize u.funcs[n] = f at *
          have u1 := bu5.cell 1 rfl
          have ul := bu5.lt
          go_upto_region 12 with fail
          generalize hW : World.alloc _ _ = W6 at *
          have h56 : Below wr.heap.size wr W6 := by rw [← hW]; exact bw_alloc (bw_alloc (Below.refl _ _))
          have bm : Box W6 wr.heap.size [.string m.name, .bool m.static, .slice A4 m.params.length cc4, .string m.result] 68 := by rw [← hW]; exact (by repeat (first | (refine Box.at ?_; (simp; done)) | apply Box.drew | apply Box.alloc | assumption))
          have bf : Box W6 (wr.heap.size + 1) [.string f.cls, .string f.name, .bool f.static, .int .i64 f.nparams, .slice A5 f.vars.length cc5, .string f.result, .slice A6 f.code.length cc6] 43 := by rw [← hW]; exact (by repeat (first | (refine Box.at ?_; (simp; done)) | apply Box.drew | apply Box.alloc | assumption))
          clear hW d0 d1 d2 d3 d4 d5 d6 m0 m1 m2 m3 u1 ul hbM hbF
          have hbw6 := below_step hbw5 h56
          have bu6 := bu5.mono h56
          have bc6 := bc5.mono h56
          have HFN : Hid (∀ W, Below W6.heap.size W6 W → FnH W u.classes f (some ⟨b0, o, none⟩) A5 A6 c0) := fun W h => by
            have hWW := below_step hbw6 h
            have h5 := below_step h56 h
            exact ⟨H.out.hl, H.out.hcc, H.out.hs.mono hWW, H.out.hok, H.out.hlk, hs5.mono h5, hfok.out.hvl, hfok.out.hvo, hs6.mono h5, hfok.out.hcl, hfok.out.hio, hfok.out.hxr, H.out.hfx.mono hWW, H.out.hkw.mono hWW⟩
          have u0 := bu6.cell 0 rfl
          have ul := bu6.lt
          have c0' := bc6.cell 0 rfl
          have cl := bc6.lt
          have m0 := bm.cell 0 rfl
          have m1 := bm.cell 1 rfl
          have m2 := bm.cell 2 rfl
          have m3 := bm.cell 3 rfl
          have ml := bm.lt
          have f0 := bf.cell 0 rfl
          have f1 := bf.cell 1 rfl
          have f2 := bf.cell 2 rfl
          have f3 := bf.cell 3 rfl
          have f4 := bf.cell 4 rfl
          have f5 := bf.cell 5 rfl
          have f6 := bf.cell 6 rfl
          have fl := bf.lt
          go_wp2_with fail
          refine (funcError_any u.classes c.name m f (some ⟨b0, o, none⟩) A4 A5 A6 c0 cc4 cc5 cc6 _ (Lib.hid (HFN.out _ (Below.refl _ _))) (hs4.mono h56) (by omega)).mono ?_
          rintro e w7 ⟨rfl, hq7⟩
          have hbw7 := below_step hbw6 hq7
          have bu7 := bu6.mono hq7
          have bf7 := bf.mono hq7
          have hz7 := below_step (below_step hbz h56) hq7
          clear u0 ul c0' cl m0 m1 m2 m3 ml f0 f1 f2 f3 f4 f5 f6 fl bm bf bu6
          by_cases hfe : funE u.classes c.name m f ≠ 0
          · have HB : Hid (r = ((n : Int), -1, funE u.classes c.name m f)) := by
              show r = _
              have h1 := fcE_fun hfe
              rw [HR.out, chkE_hit HU.out HF.out (by rw [HFC.out, h1]; exact hfe) hnl, HFC.out, h1]
            have hfe' : (funE u.classes c.name m f != 0) = true := by simpa using hfe
            clear hfe
            go_wp2_with fail
            go_ret3
            exact ⟨by rw [HB.out]; rfl, hbw7⟩
          replace hfe : funE u.classes c.name m f = 0 := Classical.not_not.1 hfe
          have HFE := Lib.hid hfe
          have hcode := (funE_code hfe).2.2.1
          have hfe' : (funE u.classes c.name m f != 0) = false := by simpa using hfe
          clear hfe
          have f6 := bf7.cell 6 rfl
          have fl := bf7.lt
          go_wp2_with fail
          clear f6 fl hfe'
          go_loopw [7, 14, 55] (fun v7 _ i wy => ∃ p s1 : Nat, p ≤ f.code.length ∧ i = .int .i64 p ∧ v7 = .int .i64 s1 ∧ s1 ≤ 1024 * n + p ∧ Hid (s1 = s + newN (f.code.take p)) ∧ Hid (frst (insF u.classes f) p = 0) ∧ Below w7.heap.size w7 wy) (fun _ _ i _ => f.code.length - (intOf i).toNat)
          case atStart => exact ⟨0, s, Nat.zero_le _, rfl, rfl, by omega, Lib.hid rfl, Lib.hid rfl, Below.refl _ _⟩
          case round =>
            obtain ⟨p, s1, hp, rfl, rfl, hs1, HS1, HI, hby⟩ := hrel
            have hbw8 := below_step hbw7 hby
            have bu8 := bu7.mono hby
            have bf8 := bf7.mono hby
            have h68 := below_step hq7 hby
            by_cases hpt : p < f.code.length
            · have u0 := bu8.cell 0 rfl
              have ul := bu8.lt
              have f0 := bf8.cell 0 rfl
              have f1 := bf8.cell 1 rfl
              have f2 := bf8.cell 2 rfl
              have f3 := bf8.cell 3 rfl
              have f4 := bf8.cell 4 rfl
              have f5 := bf8.cell 5 rfl
              have f6 := bf8.cell 6 rfl
              have fl := bf8.lt
              go_wp2_with fail
              refine (instrError_any u.classes f (some ⟨b0, o, none⟩) A5 A6 c0 cc5 cc6 p _ (Lib.hid (HFN.out _ h68)) hpt).mono ?_
              rintro e w9 ⟨rfl, hq9⟩
              have hbw9 := below_step hbw8 hq9
              have bf9 := bf8.mono hq9
              have HIF := Lib.hid (insF_at (cs := u.classes) hpt)
              clear u0 ul f0 f1 f2 f3 f4 f5 f6 fl
              by_cases hie : insE u.classes f.vars f.result f.code p f.code[p] ≠ 0
              · have HB : Hid (r = ((n : Int), (p : Int), insE u.classes f.vars f.result f.code p f.code[p])) := by
                  show r = _
                  have h1 := fcE_ins HFE.out HI.out (by rw [HIF.out]; exact hie) hpt
                  rw [HIF.out] at h1
                  rw [HR.out, chkE_hit HU.out HF.out (by rw [HFC.out, h1]; exact hie) hnl, HFC.out, h1]
                have hie' : (insE u.classes f.vars f.result f.code p f.code[p] != 0) = true := by simpa using hie
                clear hie
                go_wp2_with fail
                go_ret3
                exact ⟨by rw [HB.out]; rfl, hbw9⟩
              replace hie : insE u.classes f.vars f.result f.code p f.code[p] = 0 := Classical.not_not.1 hie
              have HI2 : Hid (frst (insF u.classes f) (p + 1) = 0) := frst_pass HI.out (by rw [HIF.out]; exact hie)
              have hie' : (insE u.classes f.vars f.result f.code p f.code[p] != 0) = false := by simpa using hie
              have HNT := Lib.hid (newN_take hpt)
              clear hie HIF
              obtain ⟨bI, oI, A7, cc7, hA, hbI, d0, _⟩ := ((hs6.mono h56).mono (below_step h68 hq9)).ins_at hpt
              subst hA
              have f6 := bf9.cell 6 rfl
              have fl := bf9.lt
              cases h6 : (f.code[p].op == 6) with
              | true =>
                have HS2 : Hid (s1 + 1 = s + newN (f.code.take (p + 1))) := by show _ = _; rw [HNT.out, h6, HS1.out, if_pos rfl]; omega
                clear HNT
                go_wp2_with fail
                go_roundw
                case rel => exact ⟨p + 1, s1 + 1, by omega, by go_num, by go_num, by omega, HS2, HI2, below_step hby hq9⟩
                case measure => simp [intOf]; omega
              | false =>
                have HS2 : Hid (s1 = s + newN (f.code.take (p + 1))) := by show _ = _; rw [HNT.out, h6, HS1.out, if_neg (by simp)]; omega
                clear HNT
                go_wp2_with fail
                go_roundw
                case rel => exact ⟨p + 1, s1, by omega, by go_num, rfl, by omega, HS2, HI2, below_step hby hq9⟩
                case measure => simp [intOf]; omega
            · have hpe : p = f.code.length := by omega
              have HF2 : Hid (frst (fun k => (fcF u k).2) (n + 1) = 0) := frst_pass HF.out (by
                have h1 := HI.out
                rw [hpe] at h1
                rw [HFC.out, fcE_ok HFE.out h1])
              have HS2 : Hid (s1 = siteN (u.funcs.take (n + 1))) := by show _ = _; rw [HSN.out, HS1.out, HS.out, hpe, List.take_length]
              have HN2 : Hid (n + 1 = n0 + (q + 1)) := by show _ = _; rw [HN.out]; omega
              clear hpe
              go_wp2_with fail
              go_roundw
              case rel => exact ⟨q + 1, n + 1, s1, by omega, by go_num, by go_num, rfl, by omega, by omega, HN2, HS2, HF2, below_step hz7 hby⟩
              case measure => simp [intOf]; omega
        · have hqe : q = c.methods.length := by omega
          have HN2 : Hid (n = mthN (u.classes.take (j + 1))) := by show _ = _; rw [HMT.out, HN.out, HN0.out, hqe]
          clear hqe
          go_wp2_with fail
          go_roundw
          case rel => exact ⟨j + 1, n, s, by omega, by go_num, rfl, rfl, hn, hs, HN2, HS, HF, below_step hb24 hbz⟩
          case measure => simp [intOf]; omega
    · have hje : j = u.classes.length := by omega
      have hn2 : n0 = u.funcs.length := by
        have h1 := HN0.out
        rw [List.take_of_length_le (by omega)] at h1
        rw [h1, HFM.out]
      have HE : Hid (r = if 1024 < siteN u.funcs then (-1, -1, 3) else (0, 0, 0)) := by
        show r = _
        have h1 := HF0.out
        rw [hn2] at h1
        rw [HR.out, chkE_end HU.out h1]
      have HS2 : Hid (siteN u.funcs = s0) := by
        show _ = _
        have h1 := HS0.out
        rw [List.take_of_length_le (by omega)] at h1
        exact h1.symm
      clear hje hn2 HS0 HF0 HN0
      by_cases h1024 : 1024 < s0
      · have HB : Hid (r = (-1, -1, 3)) := by show r = _; rw [HE.out, if_pos (by rw [HS2.out]; exact h1024)]
        go_wp2_with fail
        go_ret3
        exact ⟨by rw [HB.out]; rfl, hbw3⟩
      · have HB : Hid (r = (0, 0, 0)) := by show r = _; rw [HE.out, if_neg (by rw [HS2.out]; exact h1024)]
        go_wp2_with fail
        go_ret3
        exact ⟨by rw [HB.out]; rfl, hbw3⟩
end Go.Proofs.YticpeombillmeaaGreatDoor
