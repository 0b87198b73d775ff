/- Chapter 10: the reference's chains and look-ups in any hierarchy. Chapter 10: the reference's look-up of a method in any hierarchy. Chapter 10: the answer's Type, IsSub, up, in any hierarchy. Chapter 10: the answer's look-up of a method in any hierarchy; the row of its parameters lies where the hierarchy lay. -/
import Derived.Test.YtmhdambkchlilaaGreatDoorJGh
import Derived.Test.YtmhdambkchlilaaGreatDoorJGa
import Derived.Test.YtmhdambkchlilaaGreatDoorJGc
namespace Go.Proofs.YtmhdambkchlilaaGreatDoor
open Go.RowKit
set_option linter.unusedVariables false
set_option maxRecDepth 100000
set_option maxHeartbeats 4000000
theorem hasS_atG {l : List ByteArray} {s : ByteArray} {k : Nat} (hk : k < l.length) (h : (l[k].toList == s.toList) = true) : hasS l s = true := by
 rw [hasS_iff,← eqS_iff.1 h]; exact List.getElem_mem hk
theorem hasS_noneG {l : List ByteArray} {s : ByteArray} (h : ∀ i (hi : i < l.length),(l[i].toList == s.toList) = false) : hasS l s = false := by
 cases hq : hasS l s with
 | false => rfl
 | true =>
  rw [hasS_iff] at hq
  obtain ⟨i,hi,rfl⟩ := List.getElem_of_mem hq
  exact absurd (h i hi) (by rw [eqS_iff.2 rfl]; simp)
theorem nm_fndG {cs : List Cls} {s : ByteArray} (h : 0 ≤ fnd cs s) : nmAt cs (fnd cs s) = s := by
 unfold fnd idxI at *
 cases hq : cs.findIdx? (isCls s) with
 | none => rw [hq] at h; simp at h
 | some i =>
  obtain ⟨hi,h1,_⟩ := List.findIdx?_eq_some_iff_getElem.1 hq
  simp only
  rw [nmAt_nat hi]
  exact eqS_iff.1 h1
theorem refFind_g (A : Option Addr) (c : Nat) (cs : List Cls) (s : ByteArray) (w : World) (hl : cs.length ≤ 8796093022208) (hsl : Sl Lay.cls w A cs) :
  Calls Tryz.prog 42 #[.agg #[.slice A cs.length c],.string s] w fun e w' => e = .returned (.int .i64 (fnd cs s)) ∧ Below w.heap.size w w' := by
 have hb0 : Below w.heap.size w (w.alloc (.cells #[.slice A cs.length c] 29)) := (by repeat (first | assumption | exact Below.refl _ _ | apply bw_alloc | apply bw_drew | apply bw_drewN | apply bw_later | apply bw_step))
 have bx := Box.new w [.slice A cs.length c] 29
 have x0 := bx.cell 0 rfl
 have xl := bx.lt
 have hsl1 := hsl.mono hb0
 go_enter Tryz.func42,Tryz.ntmps42
 go_wp2_with fail
 generalize (w.alloc (.cells #[.slice A cs.length c] 29)) = W at *
 go_loop [5] (fun i => ∃ k : Nat,k ≤ cs.length ∧ i = .int .i64 k ∧ Hid (∀ i (hi : i < k) (hi2 : i < cs.length),isCls s cs[i] = false)) (fun i => cs.length - (intOf i).toNat)
 case atStart => exact ⟨0,Nat.zero_le _,rfl,fun i hi => by omega⟩
 case round =>
  obtain ⟨k,hk,rfl,HN⟩ := hrel
  by_cases hlt : k < cs.length
  ·obtain ⟨b0,o,A2,c2,A3,c3,rfl,hb,d0,d1,d2,d3,hc2,hs2,hc3,hs3⟩ := hsl1.cls_at hlt
   cases hq : isCls s cs[k] with
   | true =>
    have HE : Hid (fnd cs s = k) := idxI_at hlt (fun i hi => HN.out i hi (by omega)) hq
    unfold isCls at hq
    go_wp2_with fail
    go_ret
    exact ⟨by rw [HE.out]; rfl,hb0⟩
   | false =>
    have HE : Hid (∀ i (hi : i < k + 1) (hi2 : i < cs.length),isCls s cs[i] = false) := fun i hi hi2 => by
     by_cases e : i = k
     ·subst e; exact hq
     ·exact HN.out i (by omega) hi2
    unfold isCls at hq
    go_wp2_with fail
    go_round
    case rel => exact ⟨k + 1,by omega,by go_num,HE⟩
    case measure => simp [intOf]; omega
  ·have HE : Hid (fnd cs s = -1) := idxI_none (fun i hi => HN.out i (by omega) hi)
   go_wp2_with fail
   go_ret
   exact ⟨by rw [HE.out]; rfl,hb0⟩
theorem refIn_g (A : Option Addr) (c : Nat) (l : List ByteArray) (s : ByteArray) (w : World) (hl : l.length ≤ 8796093022208) (hs : Sl Lay.str w A l) :
  Calls Tryz.prog 48 #[.slice A l.length c,.string s] w fun e w' => e = .returned (.bool (hasS l s)) ∧ w = w' := by
 go_enter Tryz.func48,Tryz.ntmps48
 go_wp2_with fail
 go_loop [5] (fun i => ∃ k : Nat,k ≤ l.length ∧ i = .int .i64 k ∧ Hid (∀ i (hi : i < k) (hi2 : i < l.length),(l[i].toList == s.toList) = false)) (fun i => l.length - (intOf i).toNat)
 case atStart => exact ⟨0,Nat.zero_le _,rfl,fun i hi => by omega⟩
 case round =>
  obtain ⟨k,hk,rfl,HN⟩ := hrel
  by_cases hlt : k < l.length
  ·obtain ⟨b,o,rfl,hb,d0⟩ := hs.str_at hlt
   cases hq : (l[k].toList == s.toList) with
   | true =>
    have HE := Lib.hid (hasS_atG hlt hq)
    go_wp2_with fail
    go_ret
    exact ⟨by rw [HE.out]; rfl,rfl⟩
   | false =>
    have HE : Hid (∀ i (hi : i < k + 1) (hi2 : i < l.length),(l[i].toList == s.toList) = false) := fun i hi hi2 => by
     by_cases e : i = k
     ·subst e; exact hq
     ·exact HN.out i (by omega) hi2
    go_wp2_with fail
    go_round
    case rel => exact ⟨k + 1,by omega,by go_num,HE⟩
    case measure => simp [intOf]; omega
  ·have HE := Lib.hid (hasS_noneG (l := l) (s := s) (fun i hi => HN.out i (by omega) hi))
   go_wp2_with fail
   go_ret
   exact ⟨by rw [HE.out]; rfl,rfl⟩
structure ChS (cs : List Cls) (s t : ByteArray) (P : List Int) : Prop where
 all : chR cs (fnd cs s) = chGo (supI cs) (cs.length - P.length) (fnd cs t) P
 fix : ∀ j ∈ P,fnd cs (nmAt cs j) = j
 bd : ∀ j ∈ P,0 ≤ j ∧ j < (cs.length : Int)
 nd : P.Nodup
theorem ChS.start (cs : List Cls) (s : ByteArray) : ChS cs s s [] := ⟨by simp [chR],by simp,by simp,by simp⟩
theorem ChS.mem {cs : List Cls} {s t : ByteArray} {P : List Int} (h : ChS cs s t P) (h0 : 0 ≤ fnd cs t) : hasS (P.map (nmAt cs)) t = true ↔ fnd cs t ∈ P := by
 rw [hasS_iff,List.mem_map]
 constructor
 ·rintro ⟨x,hx,rfl⟩
  rw [h.fix x hx]; exact hx
 ·intro hm
  exact ⟨_,hm,nm_fndG h0⟩
theorem ChS.stop {cs : List Cls} {s t : ByteArray} {P : List Int} (h : ChS cs s t P) (hn : ¬ (0 ≤ fnd cs t ∧ fnd cs t ∉ P)) : P.map (nmAt cs) = supersL cs s ∧ (chR cs (fnd cs s)).2 = decide (0 ≤ fnd cs t) := by
 unfold supersL
 rw [h.all,chGo_stop hn]
 exact ⟨rfl,rfl⟩
structure ChX (cs : List Cls) (s t : ByteArray) (P : List Int) (n : Nat) (hn : n < cs.length) : Prop where
 len : P.length < cs.length
 map : (P ++ [(n : Int)]).map (nmAt cs) = P.map (nmAt cs) ++ [t]
 last : cs[n].super.toList.isEmpty = true → P.map (nmAt cs) ++ [t] = supersL cs s ∧ (chR cs (fnd cs s)).2 = false
 more : cs[n].super.toList.isEmpty = false → ChS cs s cs[n].super (P ++ [(n : Int)])
theorem ChS.next {cs : List Cls} {s t : ByteArray} {P : List Int} (h : ChS cs s t P) {n : Nat} (hn : n < cs.length) (he : fnd cs t = n) (hm : (n : Int) ∉ P) : ChX cs s t P n hn := by
 have hname : nmAt cs (n : Int) = t := by
  have := nm_fndG (cs := cs) (s := t) (by omega)
  rw [he] at this; exact this
 have hbd : ∀ j ∈ P ++ [(n : Int)],0 ≤ j ∧ j < (cs.length : Int) := fun j hj => by
  rcases List.mem_append.1 hj with hj | hj
  ·exact h.bd j hj
  ·simp at hj; subst hj; omega
 have hnd : (P ++ [(n : Int)]).Nodup := by
  rw [List.nodup_append]
  refine ⟨h.nd,by simp,fun a ha b hb => ?_⟩
  simp at hb; subst hb
  intro e; subst e; exact hm ha
 have hlen := nodup_le hnd hbd
 rw [List.length_append,List.length_cons,List.length_nil] at hlen
 have hmap : (P ++ [(n : Int)]).map (nmAt cs) = P.map (nmAt cs) ++ [t] := by rw [List.map_append,List.map_cons,hname]; rfl
 have hall : chR cs (fnd cs s) = chGo (supI cs) (cs.length - (P ++ [(n : Int)]).length) (supI cs n) (P ++ [(n : Int)]) := by
  rw [h.all,he,List.length_append,List.length_cons,List.length_nil]
  obtain ⟨f,hf⟩ : ∃ f,cs.length - P.length = f + 1 := ⟨cs.length - P.length - 1,by omega⟩
  rw [hf,chGo_step ⟨by omega,hm⟩,Int.toNat_natCast,show cs.length - (P.length + (0 + 1)) = f by omega]
 refine ⟨by omega,hmap,fun hq => ?_,fun hq => ?_⟩
 ·rw [supI_at hn,if_pos hq,chGo_stop (by omega)] at hall
  unfold supersL
  rw [hall,← hmap]
  exact ⟨rfl,rfl⟩
 ·rw [supI_at hn,if_neg (by rw [hq]; simp)] at hall
  refine ⟨hall,fun j hj => ?_,hbd,hnd⟩
  rcases List.mem_append.1 hj with hj | hj
  ·exact h.fix j hj
  ·simp at hj; subst hj; rw [hname]; exact he
theorem refChain_g (A : Option Addr) (c : Nat) (cs : List Cls) (s : ByteArray) (w : World) (hl : cs.length ≤ 8796093022208) (hsl : Sl Lay.cls w A cs) :
  Calls Tryz.prog 83 #[.agg #[.slice A cs.length c],.string s] w fun e w' => (∃ v,e = .returned (.tuple #[v,.bool (chR cs (fnd cs s)).2]) ∧ Own cellsStr 1 w.heap.size 9 w' v (supersL cs s)) ∧ Below w.heap.size w w' := by
 have hb0 : Below w.heap.size w (w.alloc (.cells #[.slice A cs.length c] 29)) := (by repeat (first | assumption | exact Below.refl _ _ | apply bw_alloc | apply bw_drew | apply bw_drewN | apply bw_later | apply bw_step))
 have bx := Box.new w [.slice A cs.length c] 29
 have HST := Lib.hid (ChS.start cs s)
 obtain ⟨cy,HCY⟩ : ∃ cy,Hid (cy = (chR cs (fnd cs s)).2) := ⟨_,Lib.hid rfl⟩
 rw [← HCY.out]
 go_enter Tryz.func83,Tryz.ntmps83
 go_wp2_with fail
 refine (refFind_g A c cs s _ hl (hsl.mono hb0)).mono ?_
 rintro e w1 ⟨rfl,hb1⟩
 have hbw1 := below_step hb0 hb1
 have bx1 := bx.mono hb1
 clear hb0 hb1 bx
 go_wp2_with fail
 go_loopw [1,6,7] (fun v1 v6 v7 wr => ∃ (t : ByteArray) (P : List Int),v1 = .string t ∧ v7 = .int .i64 (fnd cs t) ∧ Hid (ChS cs s t P) ∧ P.length ≤ cs.length ∧ Own cellsStr 1 (w.heap.size + 1) 9 wr v6 (P.map (nmAt cs)) ∧ Box wr w.heap.size [.slice A cs.length c] 29 ∧ Below w.heap.size w wr) (fun v1 v6 v7 _ => cs.length - slLen v6)
 case atStart => exact ⟨s,[],rfl,rfl,HST,Nat.zero_le _,Own.nil,bx1,hbw1⟩
 case round =>
  clear HST bx1 hbw1
  obtain ⟨t,P,rfl,rfl,HS,hPl,hown,bx,hbw⟩ := hrel
  have hfb := fnd_bd cs t
  have x0 := bx.cell 0 rfl
  have xl := bx.lt
  by_cases h0 : 0 ≤ fnd cs t
  ·obtain ⟨n,hn⟩ : ∃ n : Nat,fnd cs t = n := ⟨(fnd cs t).toNat,by omega⟩
   have hnl : n < cs.length := by omega
   have HMEM := Lib.hid (HS.out.mem h0)
   have hpm0 : (P.map (nmAt cs)).length ≤ cs.length := by rw [List.length_map]; exact hPl
   cases hin : hasS (P.map (nmAt cs)) t with
   | true =>
    have HE := Lib.hid (HS.out.stop (fun h => h.2 (HMEM.out.1 hin)))
    have HB : Hid (cy = true) := by show _ = _; rw [HCY.out,HE.out.2,decide_eq_true h0]
    rw [hn] at h0 hfb ⊢
    have HIN := Lib.hid hin
    clear hn hin
    generalize P.map (nmAt cs) = N at *
    obtain ⟨A6,c6,rfl,hc6,hs6⟩ := StrsV.of_own hown
    go_wp2_with fail
    refine (refIn_g A6 c6 N t _ (by omega) hs6).mono ?_
    rintro e w2 ⟨rfl,rfl⟩
    rw [HIN.out]
    go_wp2_with fail
    go_ret2
    exact ⟨⟨_,by rw [HB.out]; rfl,by rw [← HE.out.1]; exact hown.weaken (by omega)⟩,hbw⟩
   | false =>
    have HN := Lib.hid (HS.out.next hnl hn (fun h => by rw [← hn] at h; rw [HMEM.out.2 h] at hin; cases hin))
    rw [hn] at h0 hfb ⊢
    have HNEW := Lib.hid hin
    clear hn hin HMEM
    have hlen := HN.out.len
    have hpm : (P.map (nmAt cs)).length < cs.length := by rw [List.length_map]; exact hlen
    have HMAP := Lib.hid HN.out.map
    have HLAST := Lib.hid HN.out.last
    have HMORE := Lib.hid HN.out.more
    clear HN HS
    generalize P.map (nmAt cs) = N at *
    have HSL := Lib.hid hown.slLen
    obtain ⟨A6,c6,rfl,hc6,hs6⟩ := StrsV.of_own hown
    go_wp2_with fail
    refine (refIn_g A6 c6 N t _ (by omega) hs6).mono ?_
    rintro e w2 ⟨rfl,rfl⟩
    rw [HNEW.out]
    go_wp2_with (at_builtin; refine wpList_pushG strsTy cellsStr_ok rfl (.tmp 20) (.tmp 22) rfl (w.heap.size + 1) _ _ rfl (Own.alloc hown _) t _ _ rfl (cells_one_new _ _ _) (by unfold maxLen; omega) (by omega) ?_ ?_; (simp; omega); intro v3 w3 hown3 hb3 hg3; have bx3 := (bx.alloc (.cells #[.string t] 9)).below (by omega) hb3; have y0 := bx3.cell 0 rfl; have yl := bx3.lt; have hbw3 := (bw_alloc hbw).trans (hb3.mono (by omega)); obtain ⟨b0,o,A2,c2,A3,c3,rfl,hb,d0,d1,d2,d3,hc2,hs2,hc3,hs3⟩ := (hsl.mono hbw3).cls_at hnl; cases hq : cs[n].super.toList.isEmpty)
    ·have HQ := Lib.hid (HMORE.out hq)
     have HSL3 := Lib.hid hown3.slLen
     go_wp2_with fail
     refine (refFind_g _ c cs cs[n].super _ hl (hsl.mono hbw3)).mono ?_
     rintro e w4 ⟨rfl,hb4⟩
     go_wp2_with fail
     go_roundw
     case rel => exact ⟨_,P ++ [(n : Int)],rfl,rfl,HQ,by rw [List.length_append]; simp; omega,by rw [HMAP.out]; exact hown3.mono hb4,bx3.mono hb4,below_step hbw3 hb4⟩
     case measure => rw [HSL.out,HSL3.out,List.length_append]; simp; omega
    ·have HE := Lib.hid (HLAST.out hq)
     have HB : Hid (cy = false) := by show _ = _; rw [HCY.out,HE.out.2]
     go_wp2_with fail
     go_ret2
     exact ⟨⟨_,by rw [HB.out]; rfl,by rw [← HE.out.1]; exact hown3.weaken (by omega)⟩,hbw3⟩
  ·have HE := Lib.hid (HS.out.stop (fun h => h0 h.1))
   have HB : Hid (cy = false) := by show _ = _; rw [HCY.out,HE.out.2,decide_eq_false h0]
   go_wp2_with fail
   go_ret2
   exact ⟨⟨_,by rw [HB.out]; rfl,by rw [← HE.out.1]; exact hown.weaken (by omega)⟩,hbw⟩
theorem refSupers_g (A : Option Addr) (c : Nat) (cs : List Cls) (s : ByteArray) (w : World) (hl : cs.length ≤ 8796093022208) (hsl : Sl Lay.cls w A cs) :
  Calls Tryz.prog 41 #[.agg #[.slice A cs.length c],.string s] w fun e w' => (∃ v,e = .returned v ∧ Own cellsStr 1 w.heap.size 9 w' v (supersL cs s)) ∧ Below w.heap.size w w' := by
 have hb0 : Below w.heap.size w (w.alloc (.cells #[.slice A cs.length c] 29)) := (by repeat (first | assumption | exact Below.refl _ _ | apply bw_alloc | apply bw_drew | apply bw_drewN | apply bw_later | apply bw_step))
 go_enter Tryz.func41,Tryz.ntmps41
 go_wp2_with fail
 refine (refChain_g A c cs s _ hl (hsl.mono hb0)).mono ?_
 rintro e w1 ⟨⟨v,rfl,hown⟩,hb1⟩
 go_wp2_with fail
 go_ret
 exact ⟨⟨_,rfl,hown.weaken hb0.size⟩,below_step hb0 hb1⟩
theorem chGo_fix {cs : List Cls} : ∀ (f : Nat) (i : Int) (l : List Int),(0 ≤ i → fnd cs (nmAt cs i) = i) → (∀ j ∈ l,fnd cs (nmAt cs j) = j) → ∀ j ∈ (chGo (supI cs) f i l).1,fnd cs (nmAt cs j) = j
 | 0,i,l,_,h => h
 | f + 1,i,l,hi,h => by
  by_cases hc : 0 ≤ i ∧ i ∉ l
  ·rw [chGo_step hc]
   refine chGo_fix f _ _ (fun h0 => ?_) (fun j hj => ?_)
   ·unfold supI at h0 ⊢
    split at h0
    ·split at h0
     ·omega
     ·rename_i hq
      rw [if_neg hq] at *
      rw [nm_fndG h0]
    ·omega
   ·rcases List.mem_append.1 hj with hj | hj
    ·exact h j hj
    ·simp at hj; subst hj; exact hi hc.1
  ·rw [chGo_stop hc]; exact h
theorem chR_fix (cs : List Cls) (s : ByteArray) : ∀ j ∈ (chR cs (fnd cs s)).1,fnd cs (nmAt cs j) = j :=
 chGo_fix _ _ _ (fun h0 => by rw [nm_fndG h0]) (by simp)
theorem refLookup_g (A : Option Addr) (c : Nat) (cs : List Cls) (s m : ByteArray) (w : World) (hl : cs.length ≤ 8796093022208) (hsl : Sl Lay.cls w A cs) (hlk : Hid (LensOk cs)) :
  Calls Tryz.prog 15 #[.agg #[.slice A cs.length c],.string s,.string m] w fun e w' => LookR cs (lookS cs s m) e w' ∧ Below w.heap.size w w' := by
 have HFIX := Lib.hid (chR_fix cs s)
 have HBD := Lib.hid (chR_bd (cs := cs) (fnd_bd cs s).2).1
 obtain ⟨q,HQ⟩ : ∃ q,Hid (q = lookS cs s m) := ⟨_,Lib.hid rfl⟩
 rw [← HQ.out]
 have HQ0 : Hid (q = lookL cs m (chR cs (fnd cs s)).1) := HQ.out
 have hlen := chR_len (cs := cs) (fnd_bd cs s).2
 have HSU : Hid (supersL cs s = (chR cs (fnd cs s)).1.map (nmAt cs)) := rfl
 generalize (chR cs (fnd cs s)).1 = I at *
 have hslen : (supersL cs s).length = I.length := by rw [HSU.out,List.length_map]
 have HNM : Hid (∀ k (h : k < I.length) (h2 : k < (supersL cs s).length),(supersL cs s)[k] = nmAt cs I[k]) := fun k h h2 => by simp [HSU.out]
 have bh0 := Box.new w [.slice A cs.length c] 29
 have hb0 : Below w.heap.size w ((w.alloc (.cells #[.slice A cs.length c] 29)).alloc (.cells #[.string ByteArray.empty,.bool false,.slice none 0 0,.string ByteArray.empty] 36)) := (by repeat (first | assumption | exact Below.refl _ _ | apply bw_alloc | apply bw_drew | apply bw_drewN | apply bw_later | apply bw_step))
 have bs0 := Box.new (w.alloc (.cells #[.slice A cs.length c] 29)) [.string ByteArray.empty,.bool false,.slice none 0 0,.string ByteArray.empty] 36
 rw [show (w.alloc (.cells #[.slice A cs.length c] 29)).heap.size = w.heap.size + 1 by simp] at bs0
 have bh1 := bh0.alloc (.cells #[.string ByteArray.empty,.bool false,.slice none 0 0,.string ByteArray.empty] 36)
 go_enter Tryz.func15,Tryz.ntmps15
 go_wp2_with fail
 refine (refSupers_g A c cs s _ hl (hsl.mono hb0)).mono ?_
 rintro e w1 ⟨⟨v1,rfl,ho1⟩,hb1⟩
 have bh2 := bh1.mono hb1
 have bs2 := bs0.mono hb1
 have hbw1 := below_step hb0 hb1
 obtain ⟨A1,c1,rfl,hc1,hs1⟩ := StrsV.of_own ho1
 generalize supersL cs s = N at *
 clear hb0 hb1 bh0 bs0 bh1 ho1
 go_wp2_with fail
 go_loopw [10] (fun i wr => ∃ k : Nat,k ≤ N.length ∧ i = .int .i64 k ∧ Hid (q = lookL cs m (I.drop k)) ∧ Below w1.heap.size w1 wr) (fun i _ => N.length - (intOf i).toNat)
 case atStart => exact ⟨0,Nat.zero_le _,rfl,by show _ = _; rw [List.drop_zero]; exact HQ0.out,Below.refl _ _⟩
 case round =>
  obtain ⟨k,hk,rfl,HK,hbr⟩ := hrel
  have bh := bh2.mono hbr
  have bs := bs2.mono hbr
  have hbw := below_step hbw1 hbr
  have hs1r := hs1.mono hbr
  by_cases hlt : k < N.length
  ·have hki : k < I.length := by omega
   have hIb := HBD.out _ (List.getElem_mem hki)
   have hIf := HFIX.out _ (List.getElem_mem hki)
   have hNk := HNM.out k hki hlt
   have HNO := Lib.hid (fun h => lookL_no (cs := cs) (m := m) hki h)
   have HYES := Lib.hid (fun h => lookL_yes (cs := cs) (m := m) hki h)
   generalize I[k] = ik at *
   obtain ⟨n,rfl⟩ : ∃ n : Nat,ik = n := ⟨ik.toNat,by omega⟩
   have hn : n < cs.length := by omega
   rw [nmAt_nat hn] at hNk
   have HX : Hid (fnd cs N[k] = n) := by show _ = _; rw [hNk]; rw [nmAt_nat hn] at hIf; exact hIf
   have HNK := Lib.hid hNk
   clear hIf hNk hIb
   have hml := (hlk.out _ (List.getElem_mem hn)).2.1
   obtain ⟨bN,oN,rfl,hbN,n0⟩ := hs1r.str_at hlt
   obtain ⟨b0,o,A2,c2,A3,c3,rfl,hbo,d0,d1,d2,d3,hc2,hs2,hc3,hs3⟩ := hsl.cls_at hn
   have hb := Nat.lt_of_lt_of_le hbo hbw.size
   replace d0 := keptC d0 hbo hbw
   replace d1 := keptC d1 hbo hbw
   replace d2 := keptC d2 hbo hbw
   replace d3 := keptC d3 hbo hbw
   have h0 := bh.cell 0 rfl
   have hlh := bh.lt
   have HFD : Hid (∀ W,Below w.heap.size w W → Calls Tryz.prog 42 #[.agg #[.slice (some ⟨b0,o,none⟩) cs.length c],.string N[k]] W fun e w' => e = .returned (.int .i64 (n : Int)) ∧ Below W.heap.size W w') := fun W hW => by
    have := refFind_g (some ⟨b0,o,none⟩) c cs N[k] W hl (hsl.mono hW)
    rw [HX.out] at this
    exact this
   go_upto_region 5 with fail
   go_cut [11] (fun s11 wx => ∃ g,s11 = .pointer (some ⟨g,0,none⟩) ∧ Box wx g [.string cs[n].name,.string cs[n].super,.slice A2 cs[n].fields.length c2,.slice A3 cs[n].methods.length c3] 94 ∧ Below wr.heap.size wr wx)
   case first =>
    refine wp_region_RZ 12 (by kernel_rfl) (by kernel_rfl) ?_
    refine RZ.chunk (f := 5) [0,1,2,3,4,5,6] (by kernel_rfl) ?_
    ((simp only [pickOps,List.filterMap,List.getElem?_toArray,List.getElem?_cons_zero,List.getElem?_cons_succ]); (repeat (go_big_quiet_step (fail))); refine wpQuiet_nil ?_)
    refine RZ.both 7 10 rfl rfl (by kernel_rfl) (by omega) (by omega) ?_ ?_
    ·intro K hK
     go_wp2_with fail
     refine (HFD.out _ hbw.drew).mono ?_
     rintro e w6 ⟨rfl,hb6⟩
     have hb6' : Below wr.heap.size wr w6 := below_step (Below.refl _ _).drew hb6
     go_wp2_with fail
     refine hK _ _ hb6 ?_
     clear hK
     refine RZ.chunk (f := 2) [8,9] (by kernel_rfl) ?_
     ((simp only [pickOps,List.filterMap,List.getElem?_toArray,List.getElem?_cons_zero,List.getElem?_cons_succ]); (repeat (go_big_quiet_step (fail))); refine wpQuiet_nil ?_)
     refine RZ.single 10 rfl (by kernel_rfl) (by omega) ?_
     intro K hK
     go_wp2_with fail
     refine hK _ _ (bw_alloc hb6) ?_
     clear hK
     refine RZ.single 11 rfl (by kernel_rfl) (by omega) ?_
     intro K hK
     go_wp2_with fail
     refine hK _ _ (bw_alloc hb6) ?_
     clear hK
     (refine RZ.done (by kernel_rfl) (by kernel_rfl) ?_)
     go_wp2_with fail
     go_meet
     exact ⟨_,rfl,Box.new _ _ _,bw_alloc hb6'⟩
    ·intro K hK
     go_wp2_with fail
     refine hK _ _ (bw_alloc (Below.refl _ _)) ?_
     clear hK
     generalize hW : World.drew (World.alloc _ _) = W2
     have hbz : Below wr.drew.heap.size wr.drew W2 := by rw [← hW]; exact bw_alloc (Below.refl _ _)
     have hbz2 : Below wr.heap.size wr W2 := below_step (Below.refl _ _).drew hbz
     have byz : Box W2 wr.heap.size [.string ByteArray.empty,.string ByteArray.empty,.slice none 0 0,.slice none 0 0] 94 := by rw [← hW]; exact (Box.new _ _ _).drew
     clear hW
     refine RZ.single 7 rfl (by kernel_rfl) (by omega) ?_
     intro K hK
     go_wp2_with fail
     refine (HFD.out _ (below_step hbw hbz2)).mono ?_
     rintro e w6 ⟨rfl,hb6⟩
     have hb7 := below_step hbz hb6
     have hb7' : Below wr.heap.size wr w6 := below_step hbz2 hb6
     have by6 := byz.mono hb6
     go_wp2_with fail
     refine hK _ _ hb7 ?_
     clear hK
     refine RZ.chunk (f := 1) [8,9] (by kernel_rfl) ?_
     ((simp only [pickOps,List.filterMap,List.getElem?_toArray,List.getElem?_cons_zero,List.getElem?_cons_succ]); (repeat (go_big_quiet_step (fail))); refine wpQuiet_nil ?_)
     have yl6 := by6.lt
     have yf := fun i => by6.free i
     have y0 := by6.cell 0 rfl
     have y1 := by6.cell 1 rfl
     have y2 := by6.cell 2 rfl
     have y3 := by6.cell 3 rfl
     obtain ⟨by9,hg9⟩ := by6.store4 (.string cs[n].name) (.string cs[n].super) (.slice A2 cs[n].fields.length c2) (.slice A3 cs[n].methods.length c3)
     have hb9 := hb7'.grown hg9 hb7'.size (fun k hk => by injection hk with hk; omega)
     have hb9d := hb7.grown hg9 hb7.size (fun k hk => by injection hk with hk; have : wr.drew.heap.size = wr.heap.size := rfl; omega)
     refine RZ.single 11 rfl (by kernel_rfl) (by omega) ?_
     intro K hK
     go_wp2_with fail
     refine hK _ _ hb9d ?_
     clear hK
     (refine RZ.done (by kernel_rfl) (by kernel_rfl) ?_)
     go_wp2_with fail
     go_meet
     exact ⟨_,rfl,by9,hb9⟩
   case rest =>
    obtain ⟨g,rfl,bc,hbx⟩ := hcut
    clear h0 hlh d0 d1 d2 d3 n0 HFD
    have hbrx := below_step hbr hbx
    have bhx := bh.mono hbx
    have bsx := bs.mono hbx
    have hbwx := below_step hbw hbx
    have hs1x := hs1r.mono hbx
    clear hs2 hbx hbr bh bs hbw hs1r
    go_wp2_with fail
    have bc2 := bc
    have k3 := bc.cell 3 rfl
    have kl := bc.lt
    go_loop [12] (fun i => ∃ j : Nat,j ≤ cs[n].methods.length ∧ i = .int .i64 j ∧ Hid (∀ i (hi : i < j) (hi2 : i < cs[n].methods.length),isSg m cs[n].methods[i] = false)) (fun i => cs[n].methods.length - (intOf i).toNat)
    case atStart => exact ⟨0,Nat.zero_le _,rfl,fun i hi => by omega⟩
    case round =>
     obtain ⟨j,hj,rfl,HJ⟩ := hrel
     by_cases hjl : j < cs[n].methods.length
     ·obtain ⟨bM,oM,A4,c4,rfl,hbMo,m0,m1,m2,m3,hc4,hs4⟩ := hs3.sg_at hjl
      have hbM := Nat.lt_of_lt_of_le hbMo hbwx.size
      replace m0 := keptC m0 hbMo hbwx
      replace m1 := keptC m1 hbMo hbwx
      replace m2 := keptC m2 hbMo hbwx
      replace m3 := keptC m3 hbMo hbwx
      cases hq : isSg m cs[n].methods[j] with
      | false =>
       have HJ2 : Hid (∀ i (hi : i < j + 1) (hi2 : i < cs[n].methods.length),isSg m cs[n].methods[i] = false) := fun i hi hi2 => by
        by_cases e : i = j
        ·subst e; exact hq
        ·exact HJ.out i (by omega) hi2
       unfold isSg at hq
       go_wp2_with fail
       go_round
       case rel => exact ⟨j + 1,by omega,by go_num,HJ2⟩
       case measure => simp [intOf]; omega
      | true =>
       have HI : Hid (mIdx cs m n = j) := by show _ = _; rw [mIdx_nat hn]; exact idxI_at hjl (fun i hi => HJ.out i hi (by omega)) hq
       have HE : Hid (q = ((n : Int),(j : Int))) := by show _ = _; rw [HK.out,HYES.out (by rw [HI.out]; omega),HI.out]
       unfold isSg at hq
       obtain ⟨bN',oN',eA,hbN',n0⟩ := hs1x.str_at hlt
       injection eA with eA
       injection eA with z1 z2
       subst z1 z2
       rw [HNK.out] at n0
       have s0 := bsx.cell 0 rfl
       have s1 := bsx.cell 1 rfl
       have s2 := bsx.cell 2 rfl
       have s3 := bsx.cell 3 rfl
       have sf := fun i => bsx.free i
       have sl := bsx.lt
       go_wp2_with fail
       refine wp_region_later_tail 10 (by kernel_rfl) (by kernel_rfl) ?_
       simp only [List.take_succ_cons,List.take_zero,List.drop_succ_cons,List.drop_zero]
       repeat (go_big_quiet_step (fail))
       refine wpQuiet_nil ?_
       rintro _ ⟨z,rfl⟩
       have bsz := bsx.mono z.h
       have hbwz := below_step hbwx z.h
       clear s0 s1 s2 s3 sf sl m0 m1 m2 m3 n0
       have s0 := bsz.cell 0 rfl
       have s1 := bsz.cell 1 rfl
       have s2 := bsz.cell 2 rfl
       have s3 := bsz.cell 3 rfl
       have sf := fun i => bsz.free i
       have sl := bsz.lt
       generalize z.W = wz at *
       go_wp2_with fail
       obtain ⟨hbz,hgz⟩ := bsz.store4 (.string cs[n].methods[j].name) (.bool cs[n].methods[j].static) (.slice A4 cs[n].methods[j].params.length c4) (.string cs[n].methods[j].result)
       have hbw4 := hbwz.grown hgz hbwz.size (fun k hk => by injection hk with hk; omega)
       generalize hWW : ((((wz.setCell ⟨w.heap.size + 1,0,none⟩ (.string cs[n].methods[j].name)).setCell ⟨w.heap.size + 1,1,none⟩ (.bool cs[n].methods[j].static)).setCell ⟨w.heap.size + 1,2,none⟩ (.slice A4 cs[n].methods[j].params.length c4)).setCell ⟨w.heap.size + 1,3,none⟩ (.string cs[n].methods[j].result)) = wy at *
       clear hWW
       have q0 := hbz.cell 0 rfl
       have q1 := hbz.cell 1 rfl
       have q2 := hbz.cell 2 rfl
       have q3 := hbz.cell 3 rfl
       refine bodyPost_ret (v := .tuple #[.string cs[n].name,.agg #[.string cs[n].methods[j].name,.bool cs[n].methods[j].static,.slice A4 cs[n].methods[j].params.length c4,.string cs[n].methods[j].result],.bool true]) (by simp [results,Tryz.results15,go_sem,q0,q1,q2,q3]) rfl ⟨⟨fun h => ?_,fun j' k' hj' hk' h => ?_⟩,hbw4⟩
       ·rw [HE.out] at h
        injection h with h1 h2
        omega
       ·rw [HE.out] at h
        injection h with h1 h2
        obtain rfl : n = j' := by omega
        obtain rfl : j = k' := by omega
        exact ⟨_,rfl,A4,c4,rfl,hc4,hs4.mono hbw4⟩
     ·have HI : Hid (mIdx cs m n = -1) := by show _ = _; rw [mIdx_nat hn]; exact idxI_none (fun i hi => HJ.out i (by omega) hi)
      have HK2 : Hid (q = lookL cs m (I.drop (k + 1))) := by show _ = _; rw [HK.out,HNO.out (by rw [HI.out]; omega)]
      go_wp2_with fail
      go_roundw
      case rel => exact ⟨k + 1,by omega,by go_num,HK2,hbrx⟩
      case measure => simp [intOf]; omega
  ·have HE : Hid (q = (-1,-1)) := by show _ = _; rw [HK.out,lookL_end (by omega)]
   have s0 := bs.cell 0 rfl
   have s1 := bs.cell 1 rfl
   have s2 := bs.cell 2 rfl
   have s3 := bs.cell 3 rfl
   have sf := fun i => bs.free i
   have sl := bs.lt
   go_wp2_with fail
   obtain ⟨hbz,hgz⟩ := bs.store4 (.string { data := #[] }) (.bool false) (.slice none 0 0) (.string { data := #[] })
   have hbw4 := hbw.grown hgz hbw.size (fun k hk => by injection hk with hk; omega)
   generalize ((((wr.setCell ⟨w.heap.size + 1,0,none⟩ (.string { data := #[] })).setCell ⟨w.heap.size + 1,1,none⟩ (.bool false)).setCell ⟨w.heap.size + 1,2,none⟩ (.slice none 0 0)).setCell ⟨w.heap.size + 1,3,none⟩ (.string { data := #[] })) = wz at *
   have q0 := hbz.cell 0 rfl
   have q1 := hbz.cell 1 rfl
   have q2 := hbz.cell 2 rfl
   have q3 := hbz.cell 3 rfl
   refine bodyPost_ret (v := .tuple #[.string { data := #[] },.agg #[.string { data := #[] },.bool false,.slice none 0 0,.string { data := #[] }],.bool false]) (by simp [results,Tryz.results15,go_sem,q0,q1,q2,q3]) rfl ⟨⟨fun _ => rfl,fun j k hj hk h => ?_⟩,hbw4⟩
   rw [HE.out] at h
   injection h with h1 h2
   omega
theorem refType_g (A : Option Addr) (c : Nat) (cs : List Cls) (s : ByteArray) (w : World) (hl : cs.length ≤ 8796093022208) (hsl : Sl Lay.cls w A cs) :
  Calls Tryz.prog 267 #[.agg #[.slice A cs.length c],.string s] w fun e w' => e = .returned (.bool (isTy cs s)) ∧ Below w.heap.size w w' := by
 have HF := Lib.hid (fun W (h : Below w.heap.size w W) => refFind_g A c cs s W hl (hsl.mono h))
 obtain ⟨r,HR⟩ : ∃ r,Hid (r = isTy cs s) := ⟨_,Lib.hid rfl⟩
 rw [← HR.out]
 cases q : (s.toList == [105,110,116]) with
 | true =>
  have HB : Hid (r = true) := by show r = true; rw [HR.out]; unfold isTy; rw [q]; rfl
  go_enter Tryz.func267,Tryz.ntmps267
  go_wp2_with fail
  go_ret
  exact ⟨by rw [HB.out]; rfl,(by repeat (first | assumption | exact Below.refl _ _ | apply bw_alloc | apply bw_drew | apply bw_drewN | apply bw_later | apply bw_step))⟩
 | false =>
  have HB : Hid (r = decide (0 ≤ fnd cs s)) := by show r = _; rw [HR.out]; unfold isTy; rw [q]; rfl
  generalize fnd cs s = k at *
  go_enter Tryz.func267,Tryz.ntmps267
  go_upto_region 1 with fail
  generalize hW : World.alloc _ _ = W1 at *
  have hb1 : Below w.heap.size w W1 := by rw [← hW]; exact (by repeat (first | assumption | exact Below.refl _ _ | apply bw_alloc | apply bw_drew | apply bw_drewN | apply bw_later | apply bw_step))
  have bx : Box W1 w.heap.size [.slice A cs.length c] 29 := by rw [← hW]; exact (by repeat (first | (refine Box.at ?_; (simp; done)) | apply Box.drew | apply Box.alloc | assumption))
  clear hW
  have x0 := bx.cell 0 rfl
  have xl := bx.lt
  go_wp2_with fail
  refine (HF.out _ hb1).mono ?_
  rintro e w2 ⟨rfl,hb2⟩
  go_wp2_with fail
  go_ret
  exact ⟨by rw [HB.out]; rfl,below_step hb1 hb2⟩
theorem refIsSub_g (A : Option Addr) (c : Nat) (cs : List Cls) (a b : ByteArray) (w : World) (hl : cs.length ≤ 8796093022208) (hsl : Sl Lay.cls w A cs) :
  Calls Tryz.prog 20 #[.agg #[.slice A cs.length c],.string a,.string b] w fun e w' => e = .returned (.bool (hasS (supersL cs a) b)) ∧ Below w.heap.size w w' := by
 have hN := supersL_len cs a
 have HSUP := Lib.hid (fun W (h : Below w.heap.size w W) => refSupers_g A c cs a W hl (hsl.mono h))
 generalize supersL cs a = N at *
 go_enter Tryz.func20,Tryz.ntmps20
 go_upto_region 1 with fail
 generalize hW : World.alloc _ _ = W1 at *
 have hb1 : Below w.heap.size w W1 := by rw [← hW]; exact (by repeat (first | assumption | exact Below.refl _ _ | apply bw_alloc | apply bw_drew | apply bw_drewN | apply bw_later | apply bw_step))
 have bx : Box W1 w.heap.size [.slice A cs.length c] 29 := by rw [← hW]; exact (by repeat (first | (refine Box.at ?_; (simp; done)) | apply Box.drew | apply Box.alloc | assumption))
 clear hW
 have x0 := bx.cell 0 rfl
 have xl := bx.lt
 go_wp2_with fail
 refine (HSUP.out _ hb1).mono ?_
 rintro e w2 ⟨⟨v2,rfl,ho2⟩,hb2⟩
 obtain ⟨A2,c2,rfl,hc2,hs2⟩ := StrsV.of_own ho2
 go_wp2_with fail
 refine (refIn_g A2 c2 N b _ (by omega) hs2).mono ?_
 rintro e w3 ⟨rfl,rfl⟩
 go_wp2_with fail
 go_ret
 exact ⟨rfl,below_step hb1 hb2⟩
theorem strTail {w : World} {b o : Nat} {l : List ByteArray} (h : Sl Lay.str w (some ⟨b,o,none⟩) l) : Sl Lay.str w (some ⟨b,o + 1,none⟩) l.tail := fun i x hx => by
 cases l with
 | nil => simp at hx
 | cons a t =>
  have hx' : (a :: t)[i + 1]? = some x := by simpa using hx
  obtain ⟨b',o',vs,e,h1,h2,h3⟩ := h (i + 1) x hx'
  simp only [Option.some.injEq,Addr.mk.injEq] at e
  obtain ⟨rfl,rfl,_⟩ := e
  exact ⟨b,o + 1,vs,rfl,h1,h2,fun j v hj => by
   have := h3 j v hj
   rwa [show o + (i + 1) * Lay.str.size + j = o + 1 + i * Lay.str.size + j from by show o + (i + 1) * 1 + j = o + 1 + i * 1 + j; omega] at this⟩
theorem strNil {w : World} {A : Option Addr} : Sl Lay.str w A [] := fun i x hx => by simp at hx
theorem refUp_g (A : Option Addr) (c : Nat) (cs : List Cls) (s : ByteArray) (w : World) (hl : cs.length ≤ 8796093022208) (hsl : Sl Lay.cls w A cs) :
  Calls Tryz.prog 345 #[.agg #[.slice A cs.length c],.string s] w fun e w' => (∃ v,e = .returned v ∧ StrsV w' v (supersL cs s).tail) ∧ Below w.heap.size w w' := by
 have hN := supersL_len cs s
 have HSUP := Lib.hid (fun W (h : Below w.heap.size w W) => refSupers_g A c cs s W hl (hsl.mono h))
 generalize supersL cs s = N at *
 go_enter Tryz.func345,Tryz.ntmps345
 go_upto_region 1 with fail
 generalize hW : World.alloc _ _ = W1 at *
 have hb1 : Below w.heap.size w W1 := by rw [← hW]; exact (by repeat (first | assumption | exact Below.refl _ _ | apply bw_alloc | apply bw_drew | apply bw_drewN | apply bw_later | apply bw_step))
 have bx : Box W1 w.heap.size [.slice A cs.length c] 29 := by rw [← hW]; exact (by repeat (first | (refine Box.at ?_; (simp; done)) | apply Box.drew | apply Box.alloc | assumption))
 clear hW
 have x0 := bx.cell 0 rfl
 have xl := bx.lt
 go_wp2_with fail
 refine (HSUP.out _ hb1).mono ?_
 rintro e w2 ⟨⟨v2,rfl,ho2⟩,hb2⟩
 have hbw2 := below_step hb1 hb2
 obtain ⟨A2,c2,rfl,hc2,hs2⟩ := StrsV.of_own ho2
 clear ho2
 cases hNN : N.length with
 | zero =>
  have hN0 := Lib.hid (List.length_eq_zero_iff.1 hNN)
  go_wp2_with fail
  go_ret
  exact ⟨⟨_,rfl,none,0,by rw [hN0.out]; rfl,by rw [hN0.out]; exact Nat.le_refl _,by rw [hN0.out]; exact strNil⟩,hbw2⟩
 | succ n =>
  obtain ⟨b,o,rfl,hb,d0⟩ := hs2.str_at (i := 0) (by omega)
  have hT := Lib.hid (strTail hs2)
  have htl : Hid (N.tail.length = n) := by show _ = n; rw [List.length_tail]; omega
  have hz : (((n + 1 : Nat) : Int) == 0) = false := by rw [beq_eq_false_iff_ne]; omega
  rw [hNN] at hc2 hN
  clear d0
  by_cases hc1 : c2 = 1
  ·have hn0 : n = 0 := by omega
   subst hc1 hn0
   have hN1 : Hid (N.tail = []) := List.length_eq_zero_iff.1 htl.out
   go_wp2_with fail
   go_ret
   exact ⟨⟨_,rfl,_,_,by rw [hN1.out]; rfl,by rw [hN1.out]; exact Nat.zero_le _,by rw [hN1.out]; exact strNil⟩,hbw2⟩
  ·go_wp2_with fail
   go_ret
   exact ⟨⟨_,rfl,_,_,by rw [htl.out]; rfl,by rw [htl.out]; omega,hT.out⟩,hbw2⟩
theorem refLookup_b (A : Option Addr) (c : Nat) (cs : List Cls) (s m : ByteArray) (w0 w : World) (hw0 : Below w0.heap.size w0 w) (hl : cs.length ≤ 8796093022208) (hsl0 : Sl Lay.cls w0 A cs) (hlk : Hid (LensOk cs)) :
  Calls Tryz.prog 15 #[.agg #[.slice A cs.length c],.string s,.string m] w fun e w' => LookR cs (lookS cs s m) e w0 ∧ Below w.heap.size w w' := by
 have hsl := hsl0.mono hw0
 have HFIX := Lib.hid (chR_fix cs s)
 have HBD := Lib.hid (chR_bd (cs := cs) (fnd_bd cs s).2).1
 obtain ⟨q,HQ⟩ : ∃ q,Hid (q = lookS cs s m) := ⟨_,Lib.hid rfl⟩
 rw [← HQ.out]
 have HQ0 : Hid (q = lookL cs m (chR cs (fnd cs s)).1) := HQ.out
 have hlen := chR_len (cs := cs) (fnd_bd cs s).2
 have HSU : Hid (supersL cs s = (chR cs (fnd cs s)).1.map (nmAt cs)) := rfl
 generalize (chR cs (fnd cs s)).1 = I at *
 have hslen : (supersL cs s).length = I.length := by rw [HSU.out,List.length_map]
 have HNM : Hid (∀ k (h : k < I.length) (h2 : k < (supersL cs s).length),(supersL cs s)[k] = nmAt cs I[k]) := fun k h h2 => by simp [HSU.out]
 have bh0 := Box.new w [.slice A cs.length c] 29
 have hb0 : Below w.heap.size w ((w.alloc (.cells #[.slice A cs.length c] 29)).alloc (.cells #[.string ByteArray.empty,.bool false,.slice none 0 0,.string ByteArray.empty] 36)) := (by repeat (first | assumption | exact Below.refl _ _ | apply bw_alloc | apply bw_drew | apply bw_drewN | apply bw_later | apply bw_step))
 have bs0 := Box.new (w.alloc (.cells #[.slice A cs.length c] 29)) [.string ByteArray.empty,.bool false,.slice none 0 0,.string ByteArray.empty] 36
 rw [show (w.alloc (.cells #[.slice A cs.length c] 29)).heap.size = w.heap.size + 1 by simp] at bs0
 have bh1 := bh0.alloc (.cells #[.string ByteArray.empty,.bool false,.slice none 0 0,.string ByteArray.empty] 36)
 go_enter Tryz.func15,Tryz.ntmps15
 go_wp2_with fail
 refine (refSupers_g A c cs s _ hl (hsl.mono hb0)).mono ?_
 rintro e w1 ⟨⟨v1,rfl,ho1⟩,hb1⟩
 have bh2 := bh1.mono hb1
 have bs2 := bs0.mono hb1
 have hbw1 := below_step hb0 hb1
 obtain ⟨A1,c1,rfl,hc1,hs1⟩ := StrsV.of_own ho1
 generalize supersL cs s = N at *
 clear hb0 hb1 bh0 bs0 bh1 ho1
 go_wp2_with fail
 go_loopw [10] (fun i wr => ∃ k : Nat,k ≤ N.length ∧ i = .int .i64 k ∧ Hid (q = lookL cs m (I.drop k)) ∧ Below w1.heap.size w1 wr) (fun i _ => N.length - (intOf i).toNat)
 case atStart => exact ⟨0,Nat.zero_le _,rfl,by show _ = _; rw [List.drop_zero]; exact HQ0.out,Below.refl _ _⟩
 case round =>
  obtain ⟨k,hk,rfl,HK,hbr⟩ := hrel
  have bh := bh2.mono hbr
  have bs := bs2.mono hbr
  have hbw := below_step hbw1 hbr
  have hs1r := hs1.mono hbr
  by_cases hlt : k < N.length
  ·have hki : k < I.length := by omega
   have hIb := HBD.out _ (List.getElem_mem hki)
   have hIf := HFIX.out _ (List.getElem_mem hki)
   have hNk := HNM.out k hki hlt
   have HNO := Lib.hid (fun h => lookL_no (cs := cs) (m := m) hki h)
   have HYES := Lib.hid (fun h => lookL_yes (cs := cs) (m := m) hki h)
   generalize I[k] = ik at *
   obtain ⟨n,rfl⟩ : ∃ n : Nat,ik = n := ⟨ik.toNat,by omega⟩
   have hn : n < cs.length := by omega
   rw [nmAt_nat hn] at hNk
   have HX : Hid (fnd cs N[k] = n) := by show _ = _; rw [hNk]; rw [nmAt_nat hn] at hIf; exact hIf
   have HNK := Lib.hid hNk
   clear hIf hNk hIb
   have hml := (hlk.out _ (List.getElem_mem hn)).2.1
   obtain ⟨bN,oN,rfl,hbN,n0⟩ := hs1r.str_at hlt
   obtain ⟨b0,o,A2,c2,A3,c3,rfl,hbo,d0,d1,d2,d3,hc2,hs2,hc3,hs3⟩ := hsl0.cls_at hn
   have hbw0 := below_step hw0 hbw
   have hb := Nat.lt_of_lt_of_le hbo hbw0.size
   replace d0 := keptC d0 hbo hbw0
   replace d1 := keptC d1 hbo hbw0
   replace d2 := keptC d2 hbo hbw0
   replace d3 := keptC d3 hbo hbw0
   have h0 := bh.cell 0 rfl
   have hlh := bh.lt
   have HFD : Hid (∀ W,Below w.heap.size w W → Calls Tryz.prog 42 #[.agg #[.slice (some ⟨b0,o,none⟩) cs.length c],.string N[k]] W fun e w' => e = .returned (.int .i64 (n : Int)) ∧ Below W.heap.size W w') := fun W hW => by
    have := refFind_g (some ⟨b0,o,none⟩) c cs N[k] W hl (hsl.mono hW)
    rw [HX.out] at this
    exact this
   go_upto_region 5 with fail
   go_cut [11] (fun s11 wx => ∃ g,s11 = .pointer (some ⟨g,0,none⟩) ∧ Box wx g [.string cs[n].name,.string cs[n].super,.slice A2 cs[n].fields.length c2,.slice A3 cs[n].methods.length c3] 94 ∧ Below wr.heap.size wr wx)
   case first =>
    refine wp_region_RZ 12 (by kernel_rfl) (by kernel_rfl) ?_
    refine RZ.chunk (f := 5) [0,1,2,3,4,5,6] (by kernel_rfl) ?_
    ((simp only [pickOps,List.filterMap,List.getElem?_toArray,List.getElem?_cons_zero,List.getElem?_cons_succ]); (repeat (go_big_quiet_step (fail))); refine wpQuiet_nil ?_)
    refine RZ.both 7 10 rfl rfl (by kernel_rfl) (by omega) (by omega) ?_ ?_
    ·intro K hK
     go_wp2_with fail
     refine (HFD.out _ hbw.drew).mono ?_
     rintro e w6 ⟨rfl,hb6⟩
     have hb6' : Below wr.heap.size wr w6 := below_step (Below.refl _ _).drew hb6
     go_wp2_with fail
     refine hK _ _ hb6 ?_
     clear hK
     refine RZ.chunk (f := 2) [8,9] (by kernel_rfl) ?_
     ((simp only [pickOps,List.filterMap,List.getElem?_toArray,List.getElem?_cons_zero,List.getElem?_cons_succ]); (repeat (go_big_quiet_step (fail))); refine wpQuiet_nil ?_)
     refine RZ.single 10 rfl (by kernel_rfl) (by omega) ?_
     intro K hK
     go_wp2_with fail
     refine hK _ _ (bw_alloc hb6) ?_
     clear hK
     refine RZ.single 11 rfl (by kernel_rfl) (by omega) ?_
     intro K hK
     go_wp2_with fail
     refine hK _ _ (bw_alloc hb6) ?_
     clear hK
     (refine RZ.done (by kernel_rfl) (by kernel_rfl) ?_)
     go_wp2_with fail
     go_meet
     exact ⟨_,rfl,Box.new _ _ _,bw_alloc hb6'⟩
    ·intro K hK
     go_wp2_with fail
     refine hK _ _ (bw_alloc (Below.refl _ _)) ?_
     clear hK
     generalize hW : World.drew (World.alloc _ _) = W2
     have hbz : Below wr.drew.heap.size wr.drew W2 := by rw [← hW]; exact bw_alloc (Below.refl _ _)
     have hbz2 : Below wr.heap.size wr W2 := below_step (Below.refl _ _).drew hbz
     have byz : Box W2 wr.heap.size [.string ByteArray.empty,.string ByteArray.empty,.slice none 0 0,.slice none 0 0] 94 := by rw [← hW]; exact (Box.new _ _ _).drew
     clear hW
     refine RZ.single 7 rfl (by kernel_rfl) (by omega) ?_
     intro K hK
     go_wp2_with fail
     refine (HFD.out _ (below_step hbw hbz2)).mono ?_
     rintro e w6 ⟨rfl,hb6⟩
     have hb7 := below_step hbz hb6
     have hb7' : Below wr.heap.size wr w6 := below_step hbz2 hb6
     have by6 := byz.mono hb6
     go_wp2_with fail
     refine hK _ _ hb7 ?_
     clear hK
     refine RZ.chunk (f := 1) [8,9] (by kernel_rfl) ?_
     ((simp only [pickOps,List.filterMap,List.getElem?_toArray,List.getElem?_cons_zero,List.getElem?_cons_succ]); (repeat (go_big_quiet_step (fail))); refine wpQuiet_nil ?_)
     have yl6 := by6.lt
     have yf := fun i => by6.free i
     have y0 := by6.cell 0 rfl
     have y1 := by6.cell 1 rfl
     have y2 := by6.cell 2 rfl
     have y3 := by6.cell 3 rfl
     obtain ⟨by9,hg9⟩ := by6.store4 (.string cs[n].name) (.string cs[n].super) (.slice A2 cs[n].fields.length c2) (.slice A3 cs[n].methods.length c3)
     have hb9 := hb7'.grown hg9 hb7'.size (fun k hk => by injection hk with hk; omega)
     have hb9d := hb7.grown hg9 hb7.size (fun k hk => by injection hk with hk; have : wr.drew.heap.size = wr.heap.size := rfl; omega)
     refine RZ.single 11 rfl (by kernel_rfl) (by omega) ?_
     intro K hK
     go_wp2_with fail
     refine hK _ _ hb9d ?_
     clear hK
     (refine RZ.done (by kernel_rfl) (by kernel_rfl) ?_)
     go_wp2_with fail
     go_meet
     exact ⟨_,rfl,by9,hb9⟩
   case rest =>
    obtain ⟨g,rfl,bc,hbx⟩ := hcut
    clear h0 hlh d0 d1 d2 d3 n0 HFD
    have hbrx := below_step hbr hbx
    have bhx := bh.mono hbx
    have bsx := bs.mono hbx
    have hbwx := below_step hbw hbx
    have hs1x := hs1r.mono hbx
    clear hs2 hbx hbr bh bs hbw hs1r
    go_wp2_with fail
    have bc2 := bc
    have k3 := bc.cell 3 rfl
    have kl := bc.lt
    go_loop [12] (fun i => ∃ j : Nat,j ≤ cs[n].methods.length ∧ i = .int .i64 j ∧ Hid (∀ i (hi : i < j) (hi2 : i < cs[n].methods.length),isSg m cs[n].methods[i] = false)) (fun i => cs[n].methods.length - (intOf i).toNat)
    case atStart => exact ⟨0,Nat.zero_le _,rfl,fun i hi => by omega⟩
    case round =>
     obtain ⟨j,hj,rfl,HJ⟩ := hrel
     by_cases hjl : j < cs[n].methods.length
     ·obtain ⟨bM,oM,A4,c4,rfl,hbMo,m0,m1,m2,m3,hc4,hs4⟩ := hs3.sg_at hjl
      have hbwx0 := below_step hw0 hbwx
      have hbM := Nat.lt_of_lt_of_le hbMo hbwx0.size
      replace m0 := keptC m0 hbMo hbwx0
      replace m1 := keptC m1 hbMo hbwx0
      replace m2 := keptC m2 hbMo hbwx0
      replace m3 := keptC m3 hbMo hbwx0
      cases hq : isSg m cs[n].methods[j] with
      | false =>
       have HJ2 : Hid (∀ i (hi : i < j + 1) (hi2 : i < cs[n].methods.length),isSg m cs[n].methods[i] = false) := fun i hi hi2 => by
        by_cases e : i = j
        ·subst e; exact hq
        ·exact HJ.out i (by omega) hi2
       unfold isSg at hq
       go_wp2_with fail
       go_round
       case rel => exact ⟨j + 1,by omega,by go_num,HJ2⟩
       case measure => simp [intOf]; omega
      | true =>
       have HI : Hid (mIdx cs m n = j) := by show _ = _; rw [mIdx_nat hn]; exact idxI_at hjl (fun i hi => HJ.out i hi (by omega)) hq
       have HE : Hid (q = ((n : Int),(j : Int))) := by show _ = _; rw [HK.out,HYES.out (by rw [HI.out]; omega),HI.out]
       unfold isSg at hq
       obtain ⟨bN',oN',eA,hbN',n0⟩ := hs1x.str_at hlt
       injection eA with eA
       injection eA with z1 z2
       subst z1 z2
       rw [HNK.out] at n0
       have s0 := bsx.cell 0 rfl
       have s1 := bsx.cell 1 rfl
       have s2 := bsx.cell 2 rfl
       have s3 := bsx.cell 3 rfl
       have sf := fun i => bsx.free i
       have sl := bsx.lt
       go_wp2_with fail
       refine wp_region_later_tail 10 (by kernel_rfl) (by kernel_rfl) ?_
       simp only [List.take_succ_cons,List.take_zero,List.drop_succ_cons,List.drop_zero]
       repeat (go_big_quiet_step (fail))
       refine wpQuiet_nil ?_
       rintro _ ⟨z,rfl⟩
       have bsz := bsx.mono z.h
       have hbwz := below_step hbwx z.h
       clear s0 s1 s2 s3 sf sl m0 m1 m2 m3 n0
       have s0 := bsz.cell 0 rfl
       have s1 := bsz.cell 1 rfl
       have s2 := bsz.cell 2 rfl
       have s3 := bsz.cell 3 rfl
       have sf := fun i => bsz.free i
       have sl := bsz.lt
       generalize z.W = wz at *
       go_wp2_with fail
       obtain ⟨hbz,hgz⟩ := bsz.store4 (.string cs[n].methods[j].name) (.bool cs[n].methods[j].static) (.slice A4 cs[n].methods[j].params.length c4) (.string cs[n].methods[j].result)
       have hbw4 := hbwz.grown hgz hbwz.size (fun k hk => by injection hk with hk; omega)
       generalize hWW : ((((wz.setCell ⟨w.heap.size + 1,0,none⟩ (.string cs[n].methods[j].name)).setCell ⟨w.heap.size + 1,1,none⟩ (.bool cs[n].methods[j].static)).setCell ⟨w.heap.size + 1,2,none⟩ (.slice A4 cs[n].methods[j].params.length c4)).setCell ⟨w.heap.size + 1,3,none⟩ (.string cs[n].methods[j].result)) = wy at *
       clear hWW
       have q0 := hbz.cell 0 rfl
       have q1 := hbz.cell 1 rfl
       have q2 := hbz.cell 2 rfl
       have q3 := hbz.cell 3 rfl
       refine bodyPost_ret (v := .tuple #[.string cs[n].name,.agg #[.string cs[n].methods[j].name,.bool cs[n].methods[j].static,.slice A4 cs[n].methods[j].params.length c4,.string cs[n].methods[j].result],.bool true]) (by simp [results,Tryz.results15,go_sem,q0,q1,q2,q3]) rfl ⟨⟨fun h => ?_,fun j' k' hj' hk' h => ?_⟩,hbw4⟩
       ·rw [HE.out] at h
        injection h with h1 h2
        omega
       ·rw [HE.out] at h
        injection h with h1 h2
        obtain rfl : n = j' := by omega
        obtain rfl : j = k' := by omega
        exact ⟨_,rfl,A4,c4,rfl,hc4,hs4⟩
     ·have HI : Hid (mIdx cs m n = -1) := by show _ = _; rw [mIdx_nat hn]; exact idxI_none (fun i hi => HJ.out i (by omega) hi)
      have HK2 : Hid (q = lookL cs m (I.drop (k + 1))) := by show _ = _; rw [HK.out,HNO.out (by rw [HI.out]; omega)]
      go_wp2_with fail
      go_roundw
      case rel => exact ⟨k + 1,by omega,by go_num,HK2,hbrx⟩
      case measure => simp [intOf]; omega
  ·have HE : Hid (q = (-1,-1)) := by show _ = _; rw [HK.out,lookL_end (by omega)]
   have s0 := bs.cell 0 rfl
   have s1 := bs.cell 1 rfl
   have s2 := bs.cell 2 rfl
   have s3 := bs.cell 3 rfl
   have sf := fun i => bs.free i
   have sl := bs.lt
   go_wp2_with fail
   obtain ⟨hbz,hgz⟩ := bs.store4 (.string { data := #[] }) (.bool false) (.slice none 0 0) (.string { data := #[] })
   have hbw4 := hbw.grown hgz hbw.size (fun k hk => by injection hk with hk; omega)
   generalize ((((wr.setCell ⟨w.heap.size + 1,0,none⟩ (.string { data := #[] })).setCell ⟨w.heap.size + 1,1,none⟩ (.bool false)).setCell ⟨w.heap.size + 1,2,none⟩ (.slice none 0 0)).setCell ⟨w.heap.size + 1,3,none⟩ (.string { data := #[] })) = wz at *
   have q0 := hbz.cell 0 rfl
   have q1 := hbz.cell 1 rfl
   have q2 := hbz.cell 2 rfl
   have q3 := hbz.cell 3 rfl
   refine bodyPost_ret (v := .tuple #[.string { data := #[] },.agg #[.string { data := #[] },.bool false,.slice none 0 0,.string { data := #[] }],.bool false]) (by simp [results,Tryz.results15,go_sem,q0,q1,q2,q3]) rfl ⟨⟨fun _ => rfl,fun j k hj hk h => ?_⟩,hbw4⟩
   rw [HE.out] at h
   injection h with h1 h2
   omega
end Go.Proofs.YtmhdambkchlilaaGreatDoor
