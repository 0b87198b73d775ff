/- Chapter 13: Check: the function, the instruction and the error of a unit. Chapter 13: what holds in a unit without an error (plain). -/
import Derived.Test.YtmhdambkchlilaaGreatDoorJUo
namespace Go.Proofs.YtmhdambkchlilaaGreatDoor
open Go.RowKit
set_option linter.unusedVariables false
set_option maxRecDepth 100000
set_option maxHeartbeats 2000000
theorem mthL_len (cs : List Cls) : (mthL cs).length = mthN cs := by
 induction cs with
 | nil => rfl
 | cons c r ih => unfold mthL at *; rw [List.flatMap_cons,List.length_append,ih,mthN,List.length_map]
theorem mthL_at {cs : List Cls} {j q : Nat} (hj : j < cs.length) (hq : q < cs[j].methods.length) : (mthL cs)[mthN (cs.take j) + q]? = some (cs[j].name,cs[j].methods[q]) := by
 induction cs generalizing j with
 | nil => simp at hj
 | cons c r ih =>
  unfold mthL at *
  rw [List.flatMap_cons]
  cases j with
  | zero =>
   simp only [List.getElem_cons_zero] at hq ⊢
   rw [List.take_zero,mthN,Nat.zero_add,List.getElem?_append_left (by rw [List.length_map]; exact hq),List.getElem?_map,List.getElem?_eq_getElem hq]
   rfl
  | succ j =>
   simp only [List.getElem_cons_succ] at hq ⊢
   rw [List.take_succ_cons,mthN,List.getElem?_append_right (by rw [List.length_map]; omega),List.length_map]
   have := ih (j := j) (by simpa using hj) hq
   rw [← this]
   congr 1
   omega
theorem mthN_lt {cs : List Cls} {j q : Nat} (hj : j < cs.length) (hq : q < cs[j].methods.length) : mthN (cs.take j) + q < mthN cs := by
 have := mthL_at hj hq
 rw [← mthL_len cs]
 exact (List.getElem?_eq_some_iff.1 this).1
theorem siteN_take {fs : List Fun} {k : Nat} (hk : k < fs.length) : siteN (fs.take (k + 1)) = siteN (fs.take k) + newN fs[k].code := by
 induction fs generalizing k with
 | nil => simp at hk
 | cons f r ih =>
  cases k with
  | zero => simp [siteN]
  | succ k =>
   have := ih (k := k) (by simpa using hk)
   rw [List.take_succ_cons,List.take_succ_cons,siteN,siteN,this,List.getElem_cons_succ]
   omega
theorem newN_take {code : List Ins} {i : Nat} (hi : i < code.length) : newN (code.take (i + 1)) = newN (code.take i) + if code[i].op == 6 then 1 else 0 := by
 unfold newN
 rw [List.take_succ_eq_append_getElem hi,List.countP_append,List.countP_singleton]
 cases h : (code[i].op == 6) with
 | true =>
      have : code[i].op = 6 := by simpa using h
      simp [this]
 | false =>
       have : code[i].op ≠ 6 := by simpa using h
       simp [this]
theorem fcF_at {u : Unt} {k : Nat} {p : ByteArray × Sg} (hk : k < u.funcs.length) (hp : (mthL u.classes)[k]? = some p) : fcF u k = fcE u.classes p.1 p.2 u.funcs[k] := by
 unfold fcF; rw [hp,List.getElem?_eq_getElem hk]
theorem fcE_fun {cs : List Cls} {cl : ByteArray} {m : Sg} {f : Fun} (h : funE cs cl m f ≠ 0) : fcE cs cl m f = (-1,funE cs cl m f) := by unfold fcE; rw [if_pos h]
theorem fcE_ins {cs : List Cls} {cl : ByteArray} {m : Sg} {f : Fun} (h : funE cs cl m f = 0) {i : Nat} (h0 : frst (insF cs f) i = 0) (hi : insF cs f i ≠ 0) (hl : i < f.code.length) : fcE cs cl m f = ((i : Int),insF cs f i) := by
 unfold fcE; rw [if_neg (by simpa using h),frstP_hit h0 hi hl]
theorem fcE_ok {cs : List Cls} {cl : ByteArray} {m : Sg} {f : Fun} (h : funE cs cl m f = 0) (h0 : frst (insF cs f) f.code.length = 0) : fcE cs cl m f = (0,0) := by
 unfold fcE; rw [if_neg (by simpa using h),frstP_none h0]
theorem chkE_hit {u : Unt} (h : uniE u = 0) {k : Nat} (h0 : frst (fun k => (fcF u k).2) k = 0) (hk : (fcF u k).2 ≠ 0) (hl : k < u.funcs.length) : chkE u = ((k : Int),(fcF u k).1,(fcF u k).2) := by
 unfold chkE; rw [if_neg (by simpa using h),frstP_hit h0 hk hl]
theorem chkE_end {u : Unt} (h : uniE u = 0) (h0 : frst (fun k => (fcF u k).2) u.funcs.length = 0) : chkE u = if 1024 < siteN u.funcs then (-1,-1,3) else (0,0,0) := by
 unfold chkE; rw [if_neg (by simpa using h),frstP_none h0]
theorem funE_code {cs : List Cls} {cl : ByteArray} {m : Sg} {f : Fun} (h : funE cs cl m f = 0) : belB cl m f = true ∧ f.vars.length ≤ 256 ∧ f.code.length ≤ 1024 ∧ (∀ i (hi : i < f.vars.length),vrE cs f.static i f.vars[i] = 0) ∧ 0 < f.code.length := by
 unfold funE at h
 split at h
 ·cases h
 rename_i h1
 split at h
 ·cases h
 rename_i h2
 split at h
 ·rename_i h3; exact absurd h h3
 rename_i h3
 split at h
 ·cases h
 rename_i h4
 refine ⟨by simpa using h1,by omega,by omega,fun i hi => ?_,by omega⟩
 rw [← vrF_at hi]
 exact frst_all (by simpa using h3) i hi
theorem uniE_parts {u : Unt} (h : uniE u = 0) : (hierE u.classes).2 = 0 ∧ u.funcs.length ≤ 256 ∧ u.funcs.length = mthN u.classes ∧ 0 ≤ u.main ∧ u.main < u.funcs.length ∧ ∃ f,u.funcs[u.main.toNat]? = some f ∧ mainB f = true := by
 unfold uniE at h
 split at h
 ·rename_i h1; exact absurd h h1
 rename_i h1
 split at h
 ·cases h
 rename_i h2
 split at h
 ·cases h
 rename_i h3
 split at h
 ·cases h
 rename_i h4
 split at h
 ·rename_i f hf
  split at h
  ·rename_i hm; exact ⟨by simpa using h1,by omega,by omega,by omega,by omega,f,hf,hm⟩
  ·cases h
 ·cases h
def tri (q : Int × Int × Int) : Ending := .returned (.tuple #[.int .i64 q.1,.int .i64 q.2.1,.int .i64 q.2.2])
theorem check_any (u : Unt) (A0 A1 : Option Addr) (c0 c1 : Nat) (w : World) (H : Hid (UnH w u A0 A1 c0)) :
  Calls Tryz.prog 43 #[.agg #[.slice A0 u.classes.length c0,.slice A1 u.funcs.length c1,.int .i64 u.main]] w fun e w' => e = tri (chkE u) ∧ Below w.heap.size w w' := by
 obtain ⟨r,HR⟩ : ∃ r,Hid (r = chkE u) := ⟨_,Lib.hid rfl⟩
 rw [← HR.out]
 go_enter Tryz.func43,Tryz.ntmps43
 go_upto_region 1 with fail
 generalize hW : World.alloc _ _ = W1 at *
 have hb1 : Below w.heap.size w W1 := by rw [← hW]; exact (by repeat (first | assumption | exact Below.refl _ _ | apply bw_alloc | apply bw_drew | apply bw_drewN | apply bw_later | apply bw_step))
 have bu : Box W1 w.heap.size [.slice A0 u.classes.length c0,.slice A1 u.funcs.length c1,.int .i64 u.main] 32 := by rw [← hW]; exact (by repeat (first | (refine Box.at ?_; (simp; done)) | apply Box.drew | apply Box.alloc | assumption))
 clear hW
 have u0 := bu.cell 0 rfl
 have u1 := bu.cell 1 rfl
 have u2 := bu.cell 2 rfl
 have ul := bu.lt
 go_wp2_with fail
 refine (unitError_any u A0 A1 c0 c1 _ (Lib.hid (H.out.mono hb1))).mono ?_
 rintro e w2 ⟨rfl,hq2⟩
 have hb2 := below_step hb1 hq2
 have bu2 := bu.mono hq2
 clear u0 u1 u2 ul bu hq2
 by_cases he : uniE u ≠ 0
 ·have HB : Hid (r = (-1,-1,uniE u)) := by show r = _; rw [HR.out]; unfold chkE; rw [if_pos he]
  have he' : (uniE u != 0) = true := by simpa using he
  clear he
  go_wp2_with fail
  go_ret3
  exact ⟨by rw [HB.out]; rfl,hb2⟩
 replace he : uniE u = 0 := Classical.not_not.1 he
 have HU := Lib.hid he
 obtain ⟨hh0,hf256,hfm,_,_,_⟩ := uniE_parts he
 obtain ⟨h64,hcls⟩ := hierE_valid hh0
 have HCL := Lib.hid hcls
 have HFM := Lib.hid hfm
 have he' : (uniE u != 0) = false := by simpa using he
 clear he hcls hh0 hfm
 have u0 := bu2.cell 0 rfl
 have ul := bu2.lt
 go_wp2_with fail
 clear u0 ul he'
 go_loopw [6,7,25] (fun v6 v7 i wr => ∃ j n s : Nat,j ≤ u.classes.length ∧ i = .int .i64 j ∧ v6 = .int .i64 n ∧ v7 = .int .i64 s ∧ n ≤ 256 ∧ s ≤ 1024 * n ∧ Hid (n = mthN (u.classes.take j)) ∧ Hid (s = siteN (u.funcs.take n)) ∧ Hid (frst (fun k => (fcF u k).2) n = 0) ∧ Below w2.heap.size w2 wr) (fun _ _ i _ => u.classes.length - (intOf i).toNat)
 case atStart => exact ⟨0,0,0,Nat.zero_le _,rfl,rfl,rfl,by omega,by omega,Lib.hid rfl,Lib.hid rfl,Lib.hid rfl,Below.refl _ _⟩
 case round =>
  obtain ⟨j,n0,s0,hj,rfl,rfl,rfl,hn0,hs0,HN0,HS0,HF0,hbw⟩ := hrel
  have hbw3 := below_step hb2 hbw
  have bu3 := bu2.mono hbw
  by_cases hlt : j < u.classes.length
  ·obtain ⟨b0,o,A2,cc2,A3,cc3,hA,hb,d0,d1,d2,d3,hc2,hs2,hc3,hs3⟩ := (H.out.hs.mono hbw3).cls_at hlt
   subst hA
   have HPC := Lib.hid (clsE_parts (HCL.out j hlt))
   have hm16 := HPC.out.1.2
   have HMT := Lib.hid (@mthN_take u.classes j hlt)
   have HMA := Lib.hid (@mthL_at u.classes j · hlt)
   have HML := Lib.hid (@mthN_lt u.classes j · hlt)
   generalize u.classes[j] = c at *
   go_upto_region 8 with fail
   generalize hW : World.alloc _ _ = W4 at *
   have h34 : Below wr.heap.size wr W4 := by rw [← hW]; exact bw_alloc (Below.refl _ _)
   have bc : Box W4 wr.heap.size [.string c.name,.string c.super,.slice A2 c.fields.length cc2,.slice A3 c.methods.length cc3] 94 := by rw [← hW]; exact (by repeat (first | (refine Box.at ?_; (simp; done)) | apply Box.drew | apply Box.alloc | assumption))
   clear hW d0 d1 d2 d3 hb
   have hbw4 := below_step hbw3 h34
   have hb24 := below_step hbw h34
   have bu4 := bu3.mono h34
   have hs3' := hs3.mono h34
   have c3 := bc.cell 3 rfl
   have cl := bc.lt
   go_wp2_with fail
   clear c3 cl
   go_loopw [6,7,32] (fun v6 v7 i wz => ∃ q n s : Nat,q ≤ c.methods.length ∧ i = .int .i64 q ∧ v6 = .int .i64 n ∧ v7 = .int .i64 s ∧ n ≤ 256 ∧ s ≤ 1024 * n ∧ Hid (n = n0 + q) ∧ Hid (s = siteN (u.funcs.take n)) ∧ Hid (frst (fun k => (fcF u k).2) n = 0) ∧ Below W4.heap.size W4 wz) (fun _ _ i _ => c.methods.length - (intOf i).toNat)
   case atStart => exact ⟨0,n0,s0,Nat.zero_le _,rfl,rfl,rfl,hn0,hs0,Lib.hid rfl,HS0,HF0,Below.refl _ _⟩
   case round =>
    obtain ⟨q,n,s,hq,rfl,rfl,rfl,hn,hs,HN,HS,HF,hbz⟩ := hrel
    have hbw5 := below_step hbw4 hbz
    have bu5 := bu4.mono hbz
    have bc5 := bc.mono hbz
    by_cases hqt : q < c.methods.length
    ·have hnl : n < u.funcs.length := by
      have h1 := HML.out q hqt
      have h2 := HN.out
      have h3 := HN0.out
      have h4 := HFM.out
      omega
     have hp6 := (mthE_parts (HPC.out.2.2.2.2.2.2 q hqt)).2.2.1
     have HFC : Hid (fcF u n = fcE u.classes c.name c.methods[q] u.funcs[n]) := by
      show _ = _
      rw [fcF_at hnl (p := (c.name,c.methods[q])) (by rw [HN.out,HN0.out]; exact HMA.out q hqt)]
     have HSN := Lib.hid (siteN_take hnl)
     have hfok := Lib.hid (H.out.hfo _ (List.getElem_mem hnl))
     obtain ⟨bM,oM,A4,cc4,hA,hbM,m0,m1,m2,m3,hc4,hs4⟩ := (hs3'.mono hbz).sg_at hqt
     subst hA
     obtain ⟨bF,oF,A5,cc5,A6,cc6,hA,hbF,d0,d1,d2,d3,d4,d5,d6,hc5,hs5,hc6,hs6⟩ := (H.out.hf.mono hbw5).fun_at hnl
     subst hA
     have hnI : (n : Int) < u.funcs.length := by omega
     generalize c.methods[q] = m at *
     generalize u.funcs[n] = f at *
     have u1 := bu5.cell 1 rfl
     have ul := bu5.lt
     go_upto_region 12 with fail
     generalize hW : World.alloc _ _ = W6 at *
     have h56 : Below wr.heap.size wr W6 := by rw [← hW]; exact bw_alloc (bw_alloc (Below.refl _ _))
     have bm : Box W6 wr.heap.size [.string m.name,.bool m.static,.slice A4 m.params.length cc4,.string m.result] 36 := by rw [← hW]; exact (by repeat (first | (refine Box.at ?_; (simp; done)) | apply Box.drew | apply Box.alloc | assumption))
     have bf : Box W6 (wr.heap.size + 1) [.string f.cls,.string f.name,.bool f.static,.int .i64 f.nparams,.slice A5 f.vars.length cc5,.string f.result,.slice A6 f.code.length cc6] 42 := by rw [← hW]; exact (by repeat (first | (refine Box.at ?_; (simp; done)) | apply Box.drew | apply Box.alloc | assumption))
     clear hW d0 d1 d2 d3 d4 d5 d6 m0 m1 m2 m3 u1 ul hbM hbF
     have hbw6 := below_step hbw5 h56
     have bu6 := bu5.mono h56
     have bc6 := bc5.mono h56
     have HFN : Hid (∀ W,Below W6.heap.size W6 W → FnH W u.classes f (some ⟨b0,o,none⟩) A5 A6 c0) := fun W h => by
      have hWW := below_step hbw6 h
      have h5 := below_step h56 h
      exact ⟨H.out.hl,H.out.hcc,H.out.hs.mono hWW,H.out.hok,H.out.hlk,hs5.mono h5,hfok.out.hvl,hfok.out.hvo,hs6.mono h5,hfok.out.hcl,hfok.out.hio,hfok.out.hxr,H.out.hfx.mono hWW,H.out.hkw.mono hWW⟩
     have u0 := bu6.cell 0 rfl
     have ul := bu6.lt
     have c0' := bc6.cell 0 rfl
     have cl := bc6.lt
     have m0 := bm.cell 0 rfl
     have m1 := bm.cell 1 rfl
     have m2 := bm.cell 2 rfl
     have m3 := bm.cell 3 rfl
     have ml := bm.lt
     have f0 := bf.cell 0 rfl
     have f1 := bf.cell 1 rfl
     have f2 := bf.cell 2 rfl
     have f3 := bf.cell 3 rfl
     have f4 := bf.cell 4 rfl
     have f5 := bf.cell 5 rfl
     have f6 := bf.cell 6 rfl
     have fl := bf.lt
     go_wp2_with fail
     refine (funcError_any u.classes c.name m f (some ⟨b0,o,none⟩) A4 A5 A6 c0 cc4 cc5 cc6 _ (Lib.hid (HFN.out _ (Below.refl _ _))) (hs4.mono h56) (by omega)).mono ?_
     rintro e w7 ⟨rfl,hq7⟩
     have hbw7 := below_step hbw6 hq7
     have bu7 := bu6.mono hq7
     have bf7 := bf.mono hq7
     have hz7 := below_step (below_step hbz h56) hq7
     clear u0 ul c0' cl m0 m1 m2 m3 ml f0 f1 f2 f3 f4 f5 f6 fl bm bf bu6
     by_cases hfe : funE u.classes c.name m f ≠ 0
     ·have HB : Hid (r = ((n : Int),-1,funE u.classes c.name m f)) := by
       show r = _
       have h1 := fcE_fun hfe
       rw [HR.out,chkE_hit HU.out HF.out (by rw [HFC.out,h1]; exact hfe) hnl,HFC.out,h1]
      have hfe' : (funE u.classes c.name m f != 0) = true := by simpa using hfe
      clear hfe
      go_wp2_with fail
      go_ret3
      exact ⟨by rw [HB.out]; rfl,hbw7⟩
     replace hfe : funE u.classes c.name m f = 0 := Classical.not_not.1 hfe
     have HFE := Lib.hid hfe
     have hcode := (funE_code hfe).2.2.1
     have hfe' : (funE u.classes c.name m f != 0) = false := by simpa using hfe
     clear hfe
     have f6 := bf7.cell 6 rfl
     have fl := bf7.lt
     go_wp2_with fail
     clear f6 fl hfe'
     go_loopw [7,14,55] (fun v7 _ i wy => ∃ p s1 : Nat,p ≤ f.code.length ∧ i = .int .i64 p ∧ v7 = .int .i64 s1 ∧ s1 ≤ 1024 * n + p ∧ Hid (s1 = s + newN (f.code.take p)) ∧ Hid (frst (insF u.classes f) p = 0) ∧ Below w7.heap.size w7 wy) (fun _ _ i _ => f.code.length - (intOf i).toNat)
     case atStart => exact ⟨0,s,Nat.zero_le _,rfl,rfl,by omega,Lib.hid rfl,Lib.hid rfl,Below.refl _ _⟩
     case round =>
      obtain ⟨p,s1,hp,rfl,rfl,hs1,HS1,HI,hby⟩ := hrel
      have hbw8 := below_step hbw7 hby
      have bu8 := bu7.mono hby
      have bf8 := bf7.mono hby
      have h68 := below_step hq7 hby
      by_cases hpt : p < f.code.length
      ·have u0 := bu8.cell 0 rfl
       have ul := bu8.lt
       have f0 := bf8.cell 0 rfl
       have f1 := bf8.cell 1 rfl
       have f2 := bf8.cell 2 rfl
       have f3 := bf8.cell 3 rfl
       have f4 := bf8.cell 4 rfl
       have f5 := bf8.cell 5 rfl
       have f6 := bf8.cell 6 rfl
       have fl := bf8.lt
       go_wp2_with fail
       refine (instrError_any u.classes f (some ⟨b0,o,none⟩) A5 A6 c0 cc5 cc6 p _ (Lib.hid (HFN.out _ h68)) hpt).mono ?_
       rintro e w9 ⟨rfl,hq9⟩
       have hbw9 := below_step hbw8 hq9
       have bf9 := bf8.mono hq9
       have HIF := Lib.hid (insF_at (cs := u.classes) hpt)
       clear u0 ul f0 f1 f2 f3 f4 f5 f6 fl
       by_cases hie : insE u.classes f.vars f.result f.code p f.code[p] ≠ 0
       ·have HB : Hid (r = ((n : Int),(p : Int),insE u.classes f.vars f.result f.code p f.code[p])) := by
         show r = _
         have h1 := fcE_ins HFE.out HI.out (by rw [HIF.out]; exact hie) hpt
         rw [HIF.out] at h1
         rw [HR.out,chkE_hit HU.out HF.out (by rw [HFC.out,h1]; exact hie) hnl,HFC.out,h1]
        have hie' : (insE u.classes f.vars f.result f.code p f.code[p] != 0) = true := by simpa using hie
        clear hie
        go_wp2_with fail
        go_ret3
        exact ⟨by rw [HB.out]; rfl,hbw9⟩
       replace hie : insE u.classes f.vars f.result f.code p f.code[p] = 0 := Classical.not_not.1 hie
       have HI2 : Hid (frst (insF u.classes f) (p + 1) = 0) := frst_pass HI.out (by rw [HIF.out]; exact hie)
       have hie' : (insE u.classes f.vars f.result f.code p f.code[p] != 0) = false := by simpa using hie
       have HNT := Lib.hid (newN_take hpt)
       clear hie HIF
       obtain ⟨bI,oI,A7,cc7,hA,hbI,d0,_⟩ := ((hs6.mono h56).mono (below_step h68 hq9)).ins_at hpt
       subst hA
       have f6 := bf9.cell 6 rfl
       have fl := bf9.lt
       cases h6 : (f.code[p].op == 6) with
       | true =>
        have HS2 : Hid (s1 + 1 = s + newN (f.code.take (p + 1))) := by show _ = _; rw [HNT.out,h6,HS1.out,if_pos rfl]; omega
        clear HNT
        go_wp2_with fail
        go_roundw
        case rel => exact ⟨p + 1,s1 + 1,by omega,by go_num,by go_num,by omega,HS2,HI2,below_step hby hq9⟩
        case measure => simp [intOf]; omega
       | false =>
        have HS2 : Hid (s1 = s + newN (f.code.take (p + 1))) := by show _ = _; rw [HNT.out,h6,HS1.out,if_neg (by simp)]; omega
        clear HNT
        go_wp2_with fail
        go_roundw
        case rel => exact ⟨p + 1,s1,by omega,by go_num,rfl,by omega,HS2,HI2,below_step hby hq9⟩
        case measure => simp [intOf]; omega
      ·have hpe : p = f.code.length := by omega
       have HF2 : Hid (frst (fun k => (fcF u k).2) (n + 1) = 0) := frst_pass HF.out (by
        have h1 := HI.out
        rw [hpe] at h1
        rw [HFC.out,fcE_ok HFE.out h1])
       have HS2 : Hid (s1 = siteN (u.funcs.take (n + 1))) := by show _ = _; rw [HSN.out,HS1.out,HS.out,hpe,List.take_length]
       have HN2 : Hid (n + 1 = n0 + (q + 1)) := by show _ = _; rw [HN.out]; omega
       clear hpe
       go_wp2_with fail
       go_roundw
       case rel => exact ⟨q + 1,n + 1,s1,by omega,by go_num,by go_num,rfl,by omega,by omega,HN2,HS2,HF2,below_step hz7 hby⟩
       case measure => simp [intOf]; omega
    ·have hqe : q = c.methods.length := by omega
     have HN2 : Hid (n = mthN (u.classes.take (j + 1))) := by show _ = _; rw [HMT.out,HN.out,HN0.out,hqe]
     clear hqe
     go_wp2_with fail
     go_roundw
     case rel => exact ⟨j + 1,n,s,by omega,by go_num,rfl,rfl,hn,hs,HN2,HS,HF,below_step hb24 hbz⟩
     case measure => simp [intOf]; omega
  ·have hje : j = u.classes.length := by omega
   have hn2 : n0 = u.funcs.length := by
    have h1 := HN0.out
    rw [List.take_of_length_le (by omega)] at h1
    rw [h1,HFM.out]
   have HE : Hid (r = if 1024 < siteN u.funcs then (-1,-1,3) else (0,0,0)) := by
    show r = _
    have h1 := HF0.out
    rw [hn2] at h1
    rw [HR.out,chkE_end HU.out h1]
   have HS2 : Hid (siteN u.funcs = s0) := by
    show _ = _
    have h1 := HS0.out
    rw [List.take_of_length_le (by omega)] at h1
    exact h1.symm
   clear hje hn2 HS0 HF0 HN0
   by_cases h1024 : 1024 < s0
   ·have HB : Hid (r = (-1,-1,3)) := by show r = _; rw [HE.out,if_pos (by rw [HS2.out]; exact h1024)]
    go_wp2_with fail
    go_ret3
    exact ⟨by rw [HB.out]; rfl,hbw3⟩
   ·have HB : Hid (r = (0,0,0)) := by show r = _; rw [HE.out,if_neg (by rw [HS2.out]; exact h1024)]
    go_wp2_with fail
    go_ret3
    exact ⟨by rw [HB.out]; rfl,hbw3⟩
theorem identB_len {s : ByteArray} (h : identB s = true) : 0 < s.size ∧ s.size ≤ 32 := by
 unfold identB at h
 simp only [Bool.and_eq_true,decide_eq_true_eq] at h
 exact ⟨h.1.1.1.1,h.1.1.1.2⟩
theorem idxI_found {α : Type} {p : α → Bool} {l : List α} (h : 0 ≤ idxI p l) : ∃ x ∈ l,p x = true := by
 unfold idxI at h
 cases hq : l.findIdx? p with
 | none => rw [hq] at h; simp at h
 | some i =>
  obtain ⟨hi,h1,_⟩ := List.findIdx?_eq_some_iff_getElem.1 hq
  exact ⟨l[i],List.getElem_mem hi,h1⟩
theorem fnd_found {cs : List Cls} {s : ByteArray} (h : 0 ≤ fnd cs s) : ∃ c ∈ cs,c.name = s := by
 obtain ⟨c,hc,hp⟩ := idxI_found h
 exact ⟨c,hc,eqS_iff.1 hp⟩
theorem fieldL_has {cs : List Cls} {n : ByteArray} : ∀ {l : List Int},(fieldL cs n l).2.2 = true → ∃ c ∈ cs,∃ f ∈ c.fields,f.name = n
 | [],h => by cases h
 | j :: r,h => by
  unfold fieldL at h
  split at h
  ·rename_i h0
   unfold fIdx at h0
   cases hj : cs[j.toNat]? with
   | none => rw [hj] at h0; simp at h0
   | some c =>
    rw [hj] at h0
    obtain ⟨f,hf,hp⟩ := idxI_found h0
    exact ⟨c,List.mem_of_getElem? hj,f,hf,eqS_iff.1 hp⟩
  ·exact fieldL_has h
theorem lookS_has {cs : List Cls} {s m : ByteArray} {g : Sg} (h : sgAt cs (lookS cs s m) = some g) : (∃ c ∈ cs,g ∈ c.methods) ∧ g.name = m := by
 refine ⟨sgAt_mem h,?_⟩
 rcases lookL_bd (cs := cs) (m := m) (chR_bd (fnd_bd cs s).2).1 with h1 | ⟨j,k,hj,hk,h1,_,h3⟩
 ·have h2 : lookS cs s m = (-1,-1) := h1
  rw [h2] at h; cases h
 ·have h2 : lookS cs s m = ((j : Int),(k : Int)) := h1
  rw [h2] at h
  unfold sgAt at h
  rw [if_neg (by show ¬ (j : Int) < 0; omega)] at h
  simp only [Int.toNat_natCast,List.getElem?_eq_getElem hj,Option.bind_some] at h
  rw [List.getElem?_eq_getElem hk] at h
  injection h with h
  subst h
  have h4 : cs[j].methods.findIdx? (isSg m) = some k := by
   unfold idxI at h3
   cases hq : cs[j].methods.findIdx? (isSg m) with
   | none => rw [hq] at h3; simp at h3
   | some i => rw [hq] at h3; have h3 : (i : Int) = k := h3; rw [show i = k by omega]
  obtain ⟨_,h5,_⟩ := List.findIdx?_eq_some_iff_getElem.1 h4
  exact eqS_iff.1 h5
theorem statS_has {cs : List Cls} {x : Ins} {g : Sg} (h : statS cs x = some g) : (∃ c ∈ cs,g ∈ c.methods) ∧ g.name = x.name ∧ 0 ≤ fnd cs x.cls ∧ g.static = true := by
 refine ⟨statS_mem h,?_⟩
 unfold statS at h
 split at h
 ·cases h
 rename_i h0
 cases hx : cs[(fnd cs x.cls).toNat]? with
 | none => rw [hx] at h; cases h
 | some c =>
  rw [hx] at h
  simp only at h
  split at h
  ·cases h
  rename_i h1
  split at h
  ·rename_i m hm
   split at h
   ·rename_i hs
    injection h with h; subst h
    refine ⟨?_,by omega,hs⟩
    have h3 : c.methods.findIdx? (isSg x.name) = some (idxI (isSg x.name) c.methods).toNat := by
     unfold idxI at h1 ⊢
     cases hq : c.methods.findIdx? (isSg x.name) with
     | none => rw [hq] at h1; simp at h1
     | some i => simp
    obtain ⟨hi,h5,_⟩ := List.findIdx?_eq_some_iff_getElem.1 h3
    rw [List.getElem?_eq_getElem hi] at hm
    injection hm with hm
    rw [hm] at h5
    exact eqS_iff.1 h5
   ·cases h
  ·cases h
structure ClsV (cs : List Cls) (i : Nat) (c : Cls) : Prop where
 name : identB c.name = true
 first : fnd cs c.name = i
 sup : c.super.toList.isEmpty = false → 0 ≤ fnd cs c.super
 fl : c.fields.length ≤ 16
 ml : c.methods.length ≤ 16
 fields : ∀ f ∈ c.fields,identB f.name = true ∧ isTy cs f.typ = true
 methods : ∀ m ∈ c.methods,identB m.name = true ∧ m.params.length ≤ 6 ∧ (∀ p ∈ m.params,isTy cs p = true) ∧ (m.result.toList.isEmpty || isTy cs m.result) = true
theorem clsV_of {cs : List Cls} {i : Nat} {c : Cls} (h : clsE cs i c = 0) : ClsV cs i c := by
 obtain ⟨⟨h1,h2⟩,h3,h4,h5,h6,h7,h8⟩ := clsE_parts h
 refine ⟨h3,h4,h5,h1,h2,fun f hf => ?_,fun m hm => ?_⟩
 ·obtain ⟨k,hk,rfl⟩ := List.getElem_of_mem hf
  have := h7 k hk
  unfold fldE at this
  split at this
  ·cases this
  rename_i g1
  split at this
  ·cases this
  rename_i g2
  exact ⟨by simpa using g1,by simpa using g2⟩
 ·obtain ⟨k,hk,rfl⟩ := List.getElem_of_mem hm
  obtain ⟨g1,_,g3,g4,g5,_⟩ := mthE_parts (h8 k hk)
  exact ⟨g1,g3,fun p hp => List.all_eq_true.1 g4 p hp,g5⟩
structure InsV (cs : List Cls) (f : Fun) (i : Nat) (x : Ins) : Prop where
 kind : kindBad x = false
 zero : zeroB x = true
 range : rangeB f.vars.length f.code x = true
 ctl : ctlB f.code i x = true
 typ : insT cs f.vars f.result x = 0
structure FunV (cs : List Cls) (cl : ByteArray) (m : Sg) (f : Fun) : Prop where
 bel : belB cl m f = true
 vl : f.vars.length ≤ 256
 cl0 : 0 < f.code.length
 cl1 : f.code.length ≤ 1024
 vars : ∀ i (hi : i < f.vars.length),vrE cs f.static i f.vars[i] = 0
 code : ∀ i (hi : i < f.code.length),InsV cs f i f.code[i]
structure UntV (u : Unt) : Prop where
 hcl : u.classes.length ≤ 64
 cls : ∀ i (hi : i < u.classes.length),ClsV u.classes i u.classes[i]
 hfl : u.funcs.length ≤ 256
 hlen : u.funcs.length = mthN u.classes
 m0 : 0 ≤ u.main
 m1 : u.main < u.funcs.length
 main : ∃ f,u.funcs[u.main.toNat]? = some f ∧ mainB f = true
 fn : ∀ k (hk : k < u.funcs.length),∃ p,(mthL u.classes)[k]? = some p ∧ FunV u.classes p.1 p.2 u.funcs[k]
 sites : siteN u.funcs ≤ 1024
theorem mthL_mem {cs : List Cls} {p : ByteArray × Sg} (h : p ∈ mthL cs) : ∃ c ∈ cs,p.1 = c.name ∧ p.2 ∈ c.methods := by
 unfold mthL at h
 obtain ⟨c,hc,hp⟩ := List.mem_flatMap.1 h
 obtain ⟨m,hm,rfl⟩ := List.mem_map.1 hp
 exact ⟨c,hc,rfl,hm⟩
theorem UntV.clsName {u : Unt} (H : UntV u) {c : Cls} (hc : c ∈ u.classes) : identB c.name = true := by
 obtain ⟨i,hi,rfl⟩ := List.getElem_of_mem hc
 exact (H.cls i hi).name
theorem UntV.fnd {u : Unt} (H : UntV u) {s : ByteArray} (h : 0 ≤ fnd u.classes s) : identB s = true := by
 obtain ⟨c,hc,rfl⟩ := fnd_found h
 exact H.clsName hc
theorem UntV.ty {u : Unt} (H : UntV u) {s : ByteArray} (h : isTy u.classes s = true) : 0 < s.size ∧ s.size ≤ 32 := by
 unfold isTy at h
 rw [Bool.or_eq_true] at h
 rcases h with h | h
 ·have : s.toList.length = 3 := by rw [beq_iff_eq] at h; rw [h]; rfl
  rw [ByteArray.toList_eq] at this
  rw [Array.length_toList] at this
  have h2 : s.data.size = s.size := rfl
  omega
 ·exact identB_len (H.fnd (of_decide_eq_true h))
theorem insT_new {cs : List Cls} {vars : List Fld} {res : ByteArray} {x : Ins} (h : x.op = 6 ∨ x.op = 15) : insT cs vars res x = if fnd cs x.cls < 0 then 6 else typed (fitsB cs x.cls (tyOf vars x.dst)) := by
 rcases h with h | h <;> simp [insT,h]
theorem insT_field {cs : List Cls} {vars : List Fld} {res : ByteArray} {x : Ins} (h : x.op = 7 ∨ x.op = 8) : insT cs vars res x = fieldE cs vars x := by
 rcases h with h | h <;> simp [insT,h]
def callT (cs : List Cls) (vars : List Fld) (x : Ins) : Int := if !isClsT cs (tyOf vars x.a) || !((tyOf vars x.a).toList == x.cls.toList) then 8 else match sgAt cs (lookS cs x.cls x.name) with
  | none => 6
  | some g => if g.static then 6 else callE cs vars x g
theorem insT_call {cs : List Cls} {vars : List Fld} {res : ByteArray} {x : Ins} (h : x.op = 9) : insT cs vars res x = callT cs vars x := by
 unfold callT
 simp [insT,h] <;> rfl
def statT (cs : List Cls) (vars : List Fld) (x : Ins) : Int := match statS cs x with
  | none => 6
  | some g => callE cs vars x g
theorem insT_stat {cs : List Cls} {vars : List Fld} {res : ByteArray} {x : Ins} (h : x.op = 10) : insT cs vars res x = statT cs vars x := by
 unfold statT
 simp [insT,h] <;> rfl
theorem fieldE_ok {cs : List Cls} {vars : List Fld} {x : Ins} (h : fieldE cs vars x = 0) : isClsT cs (tyOf vars x.a) = true ∧ (fieldS cs (tyOf vars x.a) x.name).2.2 = true := by
 cases h1 : isClsT cs (tyOf vars x.a) with
 | false => rw [fieldE_no h1] at h; cases h
 | true =>
  cases h2 : (fieldS cs (tyOf vars x.a) x.name).2.2 with
  | false => rw [fieldE_un h1 h2] at h; cases h
  | true => exact ⟨rfl,rfl⟩
theorem callT_ok {cs : List Cls} {vars : List Fld} {x : Ins} (h : callT cs vars x = 0) : isClsT cs (tyOf vars x.a) = true ∧ tyOf vars x.a = x.cls ∧ ∃ g,sgAt cs (lookS cs x.cls x.name) = some g ∧ g.static = false ∧ callE cs vars x g = 0 := by
 unfold callT at h
 split at h
 ·cases h
 rename_i h1
 rw [Bool.or_eq_true] at h1
 have h2 : isClsT cs (tyOf vars x.a) = true := by
  cases hq : isClsT cs (tyOf vars x.a) with
  | true => rfl
  | false => rw [hq] at h1; exact absurd (Or.inl rfl) h1
 have h3 : ((tyOf vars x.a).toList == x.cls.toList) = true := by
  cases hq : ((tyOf vars x.a).toList == x.cls.toList) with
  | true => rfl
  | false => rw [hq] at h1; exact absurd (Or.inr rfl) h1
 split at h
 ·cases h
 ·rename_i g hg
  split at h
  ·cases h
  ·rename_i hs
   exact ⟨h2,eqS_iff.1 h3,g,hg,by simpa using hs,h⟩
theorem statT_ok {cs : List Cls} {vars : List Fld} {x : Ins} (h : statT cs vars x = 0) : ∃ g,statS cs x = some g ∧ callE cs vars x g = 0 := by
 unfold statT at h
 split at h
 ·cases h
 ·rename_i g hg; exact ⟨g,hg,h⟩
theorem UntV.ins {u : Unt} (H : UntV u) {f : Fun} {i : Nat} {x : Ins} (hx : InsV u.classes f i x) : x.cls.size ≤ 32 ∧ x.name.size ≤ 32 ∧ x.args.length ≤ 6 := by
 have hk : knownB x.op = true := by
  cases h : knownB x.op with
  | true => rfl
  | false => have := hx.kind; unfold kindBad at this; rw [h] at this; cases this
 have hz := hx.zero
 have ht := hx.typ
 unfold zeroB at hz
 simp only [Bool.and_eq_true,Bool.or_eq_true] at hz
 obtain ⟨⟨⟨⟨_,hzc⟩,hzm⟩,hza⟩,_⟩ := hz
 have he : ∀ s : ByteArray,s.toList.isEmpty = true → s.size ≤ 32 := fun s h => by
  rw [List.isEmpty_iff] at h
  have : s.toList.length = 0 := by rw [h]; rfl
  rw [ByteArray.toList_eq,Array.length_toList] at this
  have h2 : s.data.size = s.size := rfl
  omega
 have hm : ∀ g : Sg,(∃ c ∈ u.classes,g ∈ c.methods) → g.name.size ≤ 32 ∧ g.params.length ≤ 6 := fun g ⟨c,hc,hg⟩ => by
  obtain ⟨j,hj,rfl⟩ := List.getElem_of_mem hc
  have := (H.cls j hj).methods g hg
  exact ⟨(identB_len this.1).2,this.2.1⟩
 have hca : ∀ g : Sg,callE u.classes f.vars x g = 0 → x.args.length = g.params.length := fun g h => by
  rcases Classical.em (x.args.length = g.params.length) with h1 | h1
  ·exact h1
  ·rw [callE_len h1] at h; cases h
 unfold knownB at hk
 simp only [Bool.and_eq_true,decide_eq_true_eq] at hk
 have hc0 : usesB x.op 99 = false → x.cls.size ≤ 32 := fun h => by rw [h] at hzc; exact he _ (by simpa using hzc)
 have hm0 : usesB x.op 109 = false → x.name.size ≤ 32 := fun h => by rw [h] at hzm; exact he _ (by simpa using hzm)
 have ha0 : usesB x.op 42 = false → x.args.length ≤ 6 := fun h => by
  rw [h] at hza
  have : ((x.args.length : Int) == 0) = true := by simpa using hza
  rw [beq_iff_eq] at this; omega
 have hop : x.op = 0 ∨ x.op = 1 ∨ x.op = 2 ∨ x.op = 3 ∨ x.op = 4 ∨ x.op = 5 ∨ x.op = 11 ∨ x.op = 12 ∨ x.op = 13 ∨ x.op = 14 ∨ x.op = 16 ∨ x.op = 6 ∨ x.op = 15 ∨ x.op = 7 ∨ x.op = 8 ∨ x.op = 9 ∨ x.op = 10 := by omega
 rcases hop with h | h | h | h | h | h | h | h | h | h | h | h | h | h | h | h | h
 iterate 11 exact ⟨hc0 (by rw [h]; rfl),hm0 (by rw [h]; rfl),ha0 (by rw [h]; rfl)⟩
 iterate 2
  refine ⟨?_,hm0 (by rw [h]; rfl),ha0 (by rw [h]; rfl)⟩
  rw [insT_new (by omega)] at ht
  split at ht
  ·cases ht
  ·exact (identB_len (H.fnd (by omega))).2
 iterate 2
  refine ⟨hc0 (by rw [h]; rfl),?_,ha0 (by rw [h]; rfl)⟩
  rw [insT_field (by omega)] at ht
  obtain ⟨c,hc,g,hg,hn⟩ := fieldL_has (fieldE_ok ht).2
  obtain ⟨j,hj,rfl⟩ := List.getElem_of_mem hc
  rw [← hn]
  exact (identB_len ((H.cls j hj).fields g hg).1).2
 ·rw [insT_call h] at ht
  obtain ⟨h1,h2,g,hg,_,hce⟩ := callT_ok ht
  obtain ⟨h3,h4⟩ := lookS_has hg
  obtain ⟨h5,h6⟩ := hm g h3
  rw [h2] at h1
  refine ⟨(identB_len (H.fnd ?_)).2,by rw [← h4]; exact h5,by rw [hca g hce]; exact h6⟩
  unfold isClsT at h1
  simp only [Bool.and_eq_true,decide_eq_true_eq] at h1
  exact h1.2
 ·rw [insT_stat h] at ht
  obtain ⟨g,hg,hce⟩ := statT_ok ht
  obtain ⟨h3,h4,h7,_⟩ := statS_has hg
  obtain ⟨h5,h6⟩ := hm g h3
  exact ⟨(identB_len (H.fnd h7)).2,by rw [← h4]; exact h5,by rw [hca g hce]; exact h6⟩
theorem UntV.fun {u : Unt} (H : UntV u) {k : Nat} (hk : k < u.funcs.length) : u.funcs[k].cls.size ≤ 32 ∧ u.funcs[k].name.size ≤ 32 ∧ ∀ v ∈ u.funcs[k].vars,v.name.size ≤ 32 ∧ v.typ.size ≤ 32 := by
 obtain ⟨p,hp,hf⟩ := H.fn k hk
 obtain ⟨c,hc,h1,h2⟩ := mthL_mem (List.mem_of_getElem? hp)
 have hb := hf.bel
 rw [belB_def] at hb
 simp only [Bool.and_eq_true] at hb
 have he := hb.1.1.1.1
 unfold belEq at he
 simp only [Bool.and_eq_true] at he
 obtain ⟨j,hj,rfl⟩ := List.getElem_of_mem hc
 have hm := (H.cls j hj).methods p.2 h2
 refine ⟨by rw [eqS_iff.1 he.1,h1]; exact (identB_len (H.clsName hc)).2,by rw [eqS_iff.1 he.2.1]; exact (identB_len hm.1).2,fun v hv => ?_⟩
 obtain ⟨i,hi,rfl⟩ := List.getElem_of_mem hv
 have hv := hf.vars i hi
 rw [vrE_def] at hv
 split at hv
 ·cases hv
 rename_i g1
 split at hv
 ·cases hv
 rename_i g2
 have hl : ∀ (s : ByteArray) (l : List UInt8) (n : Nat),(s.toList == l) = true → l.length = n → s.size = n := fun s l n h hn => by
  rw [beq_iff_eq] at h
  have : s.toList.length = n := by rw [h,hn]
  rw [ByteArray.toList_eq,Array.length_toList] at this
  exact this
 constructor
 ·generalize u.funcs[k].vars[i] = v at *
  unfold vrB1 at g1
  cases hn : varNmB v.name with
  | true =>
   unfold varNmB at hn
   split at hn
   ·rename_i h; exact h.1
   ·exact (identB_len hn).2
  | false =>
   rw [hn] at g1
   cases ht : (v.name.toList == [116,104,105,115]) with
   | true => have := hl _ _ 4 ht rfl; omega
   | false => rw [ht] at g1; exact absurd rfl g1
 ·generalize u.funcs[k].vars[i] = v at *
  unfold vrB2 at g2
  cases hn : (v.typ.toList == [105,110,116]) with
  | true => have := hl _ _ 3 hn rfl; omega
  | false =>
   cases ht : (v.typ.toList == [110,117,108,108]) with
   | true => have := hl _ _ 4 ht rfl; omega
   | false =>
    rw [hn,ht] at g2
    have : ¬ Go.Proofs.YtmhdambkchlilaaGreatDoor.fnd u.classes v.typ < 0 := fun h => g2 (by rw [decide_eq_true h]; rfl)
    exact (identB_len (H.fnd (by omega))).2
end Go.Proofs.YtmhdambkchlilaaGreatDoor
