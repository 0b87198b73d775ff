/-
  Chapter 13: ir.Text. (Printed by wip/gen/irU.py.)
-/
import Derived.Laws.EntriesVeiled
import Derived.Shelf.Abstract
import Derived.Test.YticpeombillmeaaGreatDoorJIrT
import Derived.Test.YticpeombillmeaaGreatDoorJUchS
namespace Go.Proofs.YticpeombillmeaaGreatDoor
open Go.RowKit
set_option linter.unusedVariables false

def txtRes (u : Unt) : ByteArray × Int := if (chkE u).2.2 ≠ 0 then (⟨#[]⟩, (chkE u).2.2) else if 65536 < (txtU u).length then (⟨#[]⟩, 3) else (bsOf (txtU u), 0)
theorem flat_takeL {α : Type} (f : α → List UInt8) {l : List α} {k : Nat} (h : k < l.length) : (l.take (k + 1)).flatMap f = (l.take k).flatMap f ++ f l[k] := by
  rw [List.take_succ_eq_append_getElem h, List.flatMap_append]; simp
theorem clsT_len {c : Cls} (h1 : WdsOk (clsW c)) (h2 : c.fields.length ≤ 16) (h3 : c.methods.length ≤ 16) (h4 : ∀ f ∈ c.fields, WdsOk (fldW f)) (h5 : ∀ m ∈ c.methods, WdsOk (mthW m)) : (clsT c).length ≤ 20000 := by
  have g1 := h1.line
  have g2 := flat_len fldT 600 c.fields (fun f hf => (h4 f hf).line)
  have g3 := flat_len mthT 600 c.methods (fun m hm => (h5 m hm).line)
  have g4 := Nat.mul_le_mul_left 600 h2
  have g5 := Nat.mul_le_mul_left 600 h3
  unfold clsT
  rw [List.length_append, List.length_append]
  omega
theorem funT_len {f : Fun} (h1 : WdsOk (funW f)) (h2 : f.vars.length ≤ 256) (h3 : f.code.length ≤ 1024) (h4 : ∀ v ∈ f.vars, WdsOk (varW v)) (h5 : ∀ x ∈ f.code, WdsOk (insW x)) : (funT f).length ≤ 800000 := by
  have g1 := h1.line
  have g2 := flat_len varT 600 f.vars (fun v hv => (h4 v hv).line)
  have g3 := flat_len insTx 600 f.code (fun x hx => (h5 x hx).line)
  have g4 := Nat.mul_le_mul_left 600 h2
  have g5 := Nat.mul_le_mul_left 600 h3
  unfold funT
  rw [List.length_append, List.length_append]
  omega
theorem flat_take_len {α : Type} (f : α → List UInt8) (m n k : Nat) (l : List α) (h : ∀ x ∈ l, (f x).length ≤ m) (hl : l.length ≤ n) : ((l.take k).flatMap f).length ≤ m * n := by
  have g1 := flat_len f m (l.take k) (fun x hx => h x (List.mem_of_mem_take hx))
  have g2 : (l.take k).length ≤ n := by rw [List.length_take]; omega
  exact Nat.le_trans g1 (Nat.mul_le_mul_left m g2)
theorem BldL.lenU {b : Nat} {l : List UInt8} {w : World} (h : BldL b l w) : Calls Tryz.prog 22 #[.pointer (some ⟨b, 0, none⟩)] w fun e w' => e = .returned (.int .i64 l.length) ∧ w = w' := by
  refine (Tryz.Builder_Len _ _ _ _ h).mono ?_
  rintro e w' ⟨rfl, rfl⟩
  rw [Lib.byteCells_length]
  exact ⟨rfl, rfl⟩
structure InsOk (x : Ins) : Prop where
  w : WdsOk (insW x)
  i : InsI x
  args : x.args.length ≤ 6
  z0 : 0 ≤ x.op
  z17 : x.op < 17
  z4 : x.op = 4 → 1 ≤ x.n ∧ x.n ≤ 5
theorem TxB.grow {w0 W W' : World} {bb : Nat} {l l' : List UInt8} (h : TxB w0 bb l W) (e : l = l') : TxB w0 bb l' W := by rw [← e]; exact h

set_option maxHeartbeats 8000000 in
set_option maxRecDepth 100000 in
theorem text_any (u : Unt) (A0 A1 : Option Addr) (c0 c1 : Nat) (w : World) (H : Hid (UnH w u A0 A1 c0)) (hI : Hid (∀ f ∈ u.funcs, ∀ x ∈ f.code, InsI x)) (hg : Gl3 w) :
    Calls Tryz.prog 6 #[.agg #[.slice A0 u.classes.length c0, .slice A1 u.funcs.length c1, .int .i64 u.main]] w fun e w' => e = .returned (.tuple #[.string (txtRes u).1, .int .i64 (txtRes u).2]) ∧ Below w.heap.size w w' := by
  obtain ⟨r, HR⟩ : ∃ r, Hid (r = txtRes u) := ⟨_, Lib.hid rfl⟩
  rw [← HR.out]
  have HRET : Hid (∀ (a : ByteArray) (b : Int), r = (a, b) → (Ending.returned (.tuple #[.string a, .int .i64 b]) = Ending.returned (.tuple #[.string r.1, .int .i64 r.2]))) := fun a b h => by rw [h]
  have HCK := Lib.hid (fun W h => check_any u A0 A1 c0 c1 W (H.out.mono h))
  obtain ⟨q, HQ⟩ : ∃ q, Hid (q = chkE u) := ⟨_, Lib.hid rfl⟩
  rw [← HQ.out] at HCK
  have HBAD : Hid (q.2.2 ≠ 0 → r = (⟨#[]⟩, q.2.2)) := fun h => by rw [HR.out, txtRes, if_pos (by rw [← HQ.out]; exact h), ← HQ.out]
  have HV : Hid (q.2.2 = 0 → TxV u) := fun h => txV_of (untV_of (by rw [← HQ.out]; exact h)) hI.out
  have HARG : Hid (q.2.2 = 0 → ∀ f ∈ u.funcs, ∀ x ∈ f.code, x.args.length ≤ 6) := fun h f hf x hx => by
    have H := untV_of (u := u) (by rw [← HQ.out]; exact h)
    obtain ⟨i, hi, rfl⟩ := List.getElem_of_mem hf
    obtain ⟨p, hp, hv⟩ := H.fn i hi
    obtain ⟨j, hj, rfl⟩ := List.getElem_of_mem hx
    exact (H.ins (hv.code j hj)).2.2
  have HFINE : Hid (q.2.2 = 0 → r = if 65536 < (txtU u).length then (⟨#[]⟩, 3) else (bsOf (txtU u), 0)) := fun h => by rw [HR.out, txtRes, if_neg (by rw [← HQ.out, h]; simp)]
  clear HR HQ
  obtain ⟨q0, q1, q2⟩ := q
  simp only [tri] at HCK HBAD HV HFINE HARG
  have HS := Lib.hid H.out.hs
  have HSF := Lib.hid H.out.hf
  have bx0 := Box.new w [.slice A0 u.classes.length c0, .slice A1 u.funcs.length c1, .int .i64 u.main] 27
  have hb0 : Below w.heap.size w (w.alloc (.cells #[.slice A0 u.classes.length c0, .slice A1 u.funcs.length c1, .int .i64 u.main] 27)) := (by repeat (first | assumption | exact Below.refl _ _ | apply bw_alloc | apply bw_drew | apply bw_drewN | apply bw_later | apply bw_step))
  clear H
  go_enter Tryz.func6, Tryz.ntmps6
  go_wp2_with fail
  refine (HCK.out _ hb0).mono ?_
  rintro e w1 ⟨rfl, hb1⟩
  have bx1 := bx0.mono hb1
  have hbw1 := below_step hb0 hb1
  clear bx0 hb0 hb1 HCK
  by_cases hq : q2 = 0
  case neg =>
    have HB := Lib.hid (HBAD.out hq)
    have tq : (q2 != 0) = true := by simpa using hq
    clear hq
    go_wp2_with fail
    go_ret2
    exact ⟨HRET.out _ _ HB.out, hbw1⟩
  have hV := HV.out hq
  have hAR := HARG.out hq
  have HF := Lib.hid (HFINE.out hq)
  subst hq
  clear HBAD HV HFINE HARG
  have hg1 := hg.mono hbw1
  have HVC := Lib.hid hV.cls
  have HVF := Lib.hid hV.fun_
  have HAR := Lib.hid hAR
  have hcl := hV.hcl
  have hfl := hV.hfl
  have HCL : Hid (∀ k, ((u.classes.take k).flatMap clsT).length ≤ 2000000) := fun k => by
    have := flat_take_len clsT 20000 64 k u.classes (fun c hc => by
      obtain ⟨a, b, c, d, e⟩ := HVC.out c hc
      exact clsT_len a b c d (fun m hm => (e m hm).1)) hcl
    omega
  have HFL : Hid (∀ k, ((u.funcs.take k).flatMap funT).length ≤ 300000000) := fun k => by
    have := flat_take_len funT 800000 256 k u.funcs (fun f hf => by
      obtain ⟨a, b, c, d, e⟩ := HVF.out f hf
      exact funT_len a b c d (fun x hx => (e x hx).1)) hfl
    omega
  clear hV
  generalize hW0 : w1.alloc (.cells #[.pointer none, .slice none 0 0] 53) = W2
  have hb2 : Below w1.heap.size w1 W2 := by rw [← hW0]; exact (by repeat (first | assumption | exact Below.refl _ _ | apply bw_alloc | apply bw_drew | apply bw_drewN | apply bw_later | apply bw_step))
  have hbd : BldL w1.heap.size [] W2 := by
    rw [← hW0]
    exact (BldL.mono (Lib.fresh_isBuilder _ _ _) (by exact (by repeat (first | assumption | exact Below.refl _ _ | apply bw_alloc | apply bw_drew | apply bw_drewN | apply bw_later | apply bw_step))))
  have hT : TxB w1 w1.heap.size [] W2 := ⟨hbd, Nat.le_refl _, hb2⟩
  have hx := bx1.mono hb2
  have p0 := hx.cell 0 rfl
  have pl := hx.lt
  clear hbd hb2
  have hT0 : TxB w1 w1.heap.size ((u.classes.take 0).flatMap clsT) W2 := hT
  have hK0 : Keeps w1 W2 := Keeps.below hT.bw
  clear hT
  go_wp2_with fail
  clear p0 pl hx hW0
  go_loopw [35] (fun i wr => ∃ k : Nat, k ≤ u.classes.length ∧ i = .int .i64 k ∧ TxB w1 w1.heap.size ((u.classes.take k).flatMap clsT) wr ∧ Keeps w1 wr) (fun i _ => u.classes.length - (intOf i).toNat)
  case atStart => exact ⟨0, Nat.zero_le _, rfl, hT0, hK0⟩
  case round =>
    clear hT0 hK0
    obtain ⟨k, hk, rfl, hT, hK⟩ := hrel
    by_cases hlt : k < u.classes.length
    · have hbw := below_step hbw1 hT.bw
      obtain ⟨b, o, A2, c2, A3, c3, rfl, hb, e0, e1, e2, e3, hc2, hs2, hc3, hs3⟩ := HS.out.cls_at hlt
      have d0 := keptC e0 hb hbw
      have d1 := keptC e1 hb hbw
      have d2 := keptC e2 hb hbw
      have d3 := keptC e3 hb hbw
      have hbl := Nat.lt_of_lt_of_le hb hbw.size
      clear e0 e1 e2 e3 hb hbw
      obtain ⟨v1, v2, v3, v4, v5⟩ := HVC.out _ (List.getElem_mem hlt)
      have HN := Lib.hid (flat_takeL clsT hlt)
      have hl1 := HCL.out k
      obtain ⟨L, HL⟩ : ∃ L, Hid (L = (u.classes.take k).flatMap clsT) := ⟨_, Lib.hid rfl⟩
      rw [← HL.out] at HN hl1 hT
      have H4 := Lib.hid v4
      have H5 := Lib.hid v5
      clear v4 v5 HL
      generalize u.classes[k] = C at *
      go_upto_region 9 with fail
      generalize hW : World.alloc _ _ = W1 at *
      have hb3 : Below wr.heap.size wr W1 := by rw [← hW]; exact (by repeat (first | assumption | exact Below.refl _ _ | apply bw_alloc | apply bw_drew | apply bw_drewN | apply bw_later | apply bw_step))
      have bc : Box W1 wr.heap.size [.string C.name, .string C.super, .slice A2 C.fields.length c2, .slice A3 C.methods.length c3] 64 := by rw [← hW]; exact (by repeat (first | (refine Box.at ?_; (simp; done)) | apply Box.drew | apply Box.alloc | assumption))
      have hT1 := hT.mono hb3
      have hK1 := hK.trans (Keeps.below hb3)
      clear hW d0 d1 d2 d3 hbl hT hK hb3
      have q1 := bc.cell 1 rfl
      have q0 := bc.cell 0 rfl
      have ql := bc.lt
      have HW1 : Hid (C.super.toList.isEmpty = true → WdsOk [bsOf wClass, C.name] ∧ lnT (clsW C) = lnT [bsOf wClass, C.name]) := fun h => by
        have e : clsW C = [bsOf wClass, C.name] := by unfold clsW; rw [if_pos h]
        rw [e] at v1; rw [e]; exact ⟨v1, rfl⟩
      have HW2 : Hid (C.super.toList.isEmpty = false → WdsOk [bsOf wClass, C.name, C.super] ∧ lnT (clsW C) = lnT [bsOf wClass, C.name, C.super]) := fun h => by
        have e : clsW C = [bsOf wClass, C.name, C.super] := by unfold clsW; rw [if_neg (by rw [h]; simp)]
        rw [e] at v1; rw [e]; exact ⟨v1, rfl⟩
      have HLC := Lib.hid v1.line
      clear v1
      go_upto_if 41 with fail
      go_cut [10] (fun v wx => v = .pointer (some ⟨wr.heap.size, 0, none⟩) ∧ TxB w1 w1.heap.size (L ++ lnT (clsW C)) wx ∧ Keeps W1 wx)
      case first =>
        cases e2 : C.super.toList.isEmpty with
        | true =>
          obtain ⟨hok, HEQ⟩ := HW1.out e2
          have HEQ := Lib.hid HEQ
          clear e2 HW1 HW2
          go_wp2_with fail
          generalize hW : World.alloc _ _ = w6
          have hb6 : Below W1.heap.size W1 w6 := by rw [← hW]; exact (by repeat (first | assumption | exact Below.refl _ _ | apply bw_alloc | apply bw_drew | apply bw_drewN | apply bw_later | apply bw_step))
          have bxw : Box w6 W1.heap.size ([bsOf wClass, C.name].map Value.string) 9 := by rw [← hW]; exact Box.new _ _ _
          clear hW
          have hT6 := hT1.mono hb6
          have HLN : Hid (Calls Tryz.prog 16 #[.slice (some ⟨W1.heap.size, 0, none⟩) 2 2, .pointer (some ⟨w1.heap.size, 0, none⟩)] w6 fun e w' => e = .returned (.tuple #[]) ∧ TxB w1 w1.heap.size (_ ++ lnT [bsOf wClass, C.name]) w' ∧ Keeps w6 w') := line13 [bsOf wClass, C.name] W1.heap.size 0 2 w6 hT6 bxw.strs hok (Nat.le_refl _) (by first | omega | (rw [List.length_append]; omega))
          refine HLN.out.mono ?_
          rintro e w7 ⟨rfl, hT7, hK7⟩
          rw [← HEQ.out] at hT7
          have hK7' := (Keeps.below hb6).trans hK7
          clear HLN hT6 hb6 bxw hK7 HEQ
          go_wp2_with fail
          go_meet
          exact ⟨rfl, hT7, hK7'⟩
        | false =>
          obtain ⟨hok, HEQ⟩ := HW2.out e2
          have HEQ := Lib.hid HEQ
          clear e2 HW1 HW2
          go_wp2_with fail
          generalize hW : World.alloc _ _ = w6
          have hb6 : Below W1.heap.size W1 w6 := by rw [← hW]; exact (by repeat (first | assumption | exact Below.refl _ _ | apply bw_alloc | apply bw_drew | apply bw_drewN | apply bw_later | apply bw_step))
          have bxw : Box w6 W1.heap.size ([bsOf wClass, C.name, C.super].map Value.string) 9 := by rw [← hW]; exact Box.new _ _ _
          clear hW
          have hT6 := hT1.mono hb6
          have HLN : Hid (Calls Tryz.prog 16 #[.slice (some ⟨W1.heap.size, 0, none⟩) 3 3, .pointer (some ⟨w1.heap.size, 0, none⟩)] w6 fun e w' => e = .returned (.tuple #[]) ∧ TxB w1 w1.heap.size (_ ++ lnT [bsOf wClass, C.name, C.super]) w' ∧ Keeps w6 w') := line13 [bsOf wClass, C.name, C.super] W1.heap.size 0 3 w6 hT6 bxw.strs hok (Nat.le_refl _) (by first | omega | (rw [List.length_append]; omega))
          refine HLN.out.mono ?_
          rintro e w7 ⟨rfl, hT7, hK7⟩
          rw [← HEQ.out] at hT7
          have hK7' := (Keeps.below hb6).trans hK7
          clear HLN hT6 hb6 bxw hK7 HEQ
          go_wp2_with fail
          go_meet
          exact ⟨rfl, hT7, hK7'⟩
      case rest =>
      obtain ⟨rfl, hT2, hK2⟩ := hcut
      have bc2 := hK2.box (by decide) (by decide) bc
      have hl2 := HLC.out
      obtain ⟨LC, HLCD⟩ : ∃ LC, Hid (LC = L ++ lnT (clsW C)) := ⟨_, Lib.hid rfl⟩
      have hl3 : LC.length ≤ 3000000 := by rw [HLCD.out, List.length_append]; omega
      rw [← HLCD.out] at hT2
      clear q0 q1 ql HW1 HW2 HLC
      have q2 := bc2.cell 2 rfl
      have ql := bc2.lt
      have hT20 := hT2
      have hK20 := hK1.trans hK2
      have bc20 := bc2
      clear hT2 hT1 hK1 hK2 bc bc2
      go_wp2_with fail
      clear q2 ql
      obtain ⟨wo, hwo⟩ : ∃ wo : World, wo = wr := ⟨_, rfl⟩
      subst hwo
      go_loopw [57] (fun i wr => ∃ q : Nat, q ≤ C.fields.length ∧ i = .int .i64 q ∧ TxB w1 w1.heap.size (LC ++ (C.fields.take q).flatMap fldT) wr ∧ Keeps w1 wr ∧ Box wr wo.heap.size [.string C.name, .string C.super, .slice A2 C.fields.length c2, .slice A3 C.methods.length c3] 64) (fun i _ => C.fields.length - (intOf i).toNat)
      case atStart => exact ⟨0, Nat.zero_le _, rfl, by rw [List.take_zero, List.flatMap_nil, List.append_nil]; exact hT20, hK20, bc20⟩
      case round =>
        clear hT20 hK20 bc20
        obtain ⟨q, hq, rfl, hT, hK, bc⟩ := hrel
        by_cases hql : q < C.fields.length
        · have hbw := below_step hbw1 hT.bw
          have hlq := flat_take_len fldT 600 16 q C.fields (fun y hy => (H4.out y hy).line) v2
          obtain ⟨bf, of, rfl, hbf, e0, e1⟩ := hs2.fld_at hql
          have f0 := keptC e0 hbf hbw
          have f1 := keptC e1 hbf hbw
          have hbfl := Nat.lt_of_lt_of_le hbf hbw.size
          have hok := H4.out _ (List.getElem_mem hql)
          have HNF : Hid ((C.fields.take (q + 1)).flatMap fldT = (C.fields.take q).flatMap fldT ++ lnT [bsOf wField, C.fields[q].name, C.fields[q].typ]) := flat_takeL fldT hql
          generalize C.fields[q] = E at *
          clear e0 e1 hbf hbw
          go_upto_region 15 with fail
          generalize hW : World.alloc _ _ = W3 at *
          have hb3 : Below wr.heap.size wr W3 := by rw [← hW]; exact (by repeat (first | assumption | exact Below.refl _ _ | apply bw_alloc | apply bw_drew | apply bw_drewN | apply bw_later | apply bw_step))
          have bq : Box W3 wr.heap.size [.string E.name, .string E.typ] 66 := by rw [← hW]; exact (by repeat (first | (refine Box.at ?_; (simp; done)) | apply Box.drew | apply Box.alloc | assumption))
          have hT1 := hT.mono hb3
          have hK1 := hK.trans (Keeps.below hb3)
          have bc1 := bc.mono hb3
          clear hW f0 f1 hbfl hT hK hb3 bc
          have q0 := bq.cell 0 rfl
          have q1 := bq.cell 1 rfl
          have ql := bq.lt
          go_wp2_with fail
          generalize hW : World.alloc _ _ = w6
          have hb6 : Below W3.heap.size W3 w6 := by rw [← hW]; exact (by repeat (first | assumption | exact Below.refl _ _ | apply bw_alloc | apply bw_drew | apply bw_drewN | apply bw_later | apply bw_step))
          have bxw : Box w6 W3.heap.size ([bsOf wField, E.name, E.typ].map Value.string) 9 := by rw [← hW]; exact Box.new _ _ _
          clear hW
          have hT6 := hT1.mono hb6
          have HLN : Hid (Calls Tryz.prog 16 #[.slice (some ⟨W3.heap.size, 0, none⟩) 3 3, .pointer (some ⟨w1.heap.size, 0, none⟩)] w6 fun e w' => e = .returned (.tuple #[]) ∧ TxB w1 w1.heap.size (_ ++ lnT [bsOf wField, E.name, E.typ]) w' ∧ Keeps w6 w') := line13 [bsOf wField, E.name, E.typ] W3.heap.size 0 3 w6 hT6 bxw.strs hok (Nat.le_refl _) (by first | omega | (rw [List.length_append]; omega))
          refine HLN.out.mono ?_
          rintro e w7 ⟨rfl, hT7, hK7⟩
          rw [List.append_assoc, ← HNF.out] at hT7
          have hK7' := (hK1.trans (Keeps.below hb6)).trans hK7
          have bc7 := hK7.box (by decide) (by decide) (bc1.mono hb6)
          clear HLN hT6 hb6 bxw hK7 HNF bq q0 q1 ql hK1 bc1
          go_wp2_with fail
          go_roundw
          case rel => exact ⟨q + 1, by omega, by go_num, hT7, hK7', bc7⟩
          case measure => simp [intOf]; omega
        · obtain rfl : q = C.fields.length := by omega
          rw [List.take_length] at hT
          have hlf := flat_take_len fldT 600 16 C.fields.length C.fields (fun y hy => (H4.out y hy).line) v2
          rw [List.take_length] at hlf
          have hlb : (LC ++ C.fields.flatMap fldT).length ≤ 4000000 := by rw [List.length_append]; omega
          have q3 := bc.cell 3 rfl
          have ql := bc.lt
          have hT30 := hT
          have hK30 := hK
          have bc30 := bc
          clear hT hK bc hql
          go_wp2_with fail
          clear q3 ql
          obtain ⟨wp, hwp⟩ : ∃ wp : World, wp = wr := ⟨_, rfl⟩
          subst hwp
          go_loopw [72] (fun i wr => ∃ q : Nat, q ≤ C.methods.length ∧ i = .int .i64 q ∧ TxB w1 w1.heap.size (LC ++ C.fields.flatMap fldT ++ (C.methods.take q).flatMap mthT) wr ∧ Keeps w1 wr ∧ Box wr wo.heap.size [.string C.name, .string C.super, .slice A2 C.fields.length c2, .slice A3 C.methods.length c3] 64) (fun i _ => C.methods.length - (intOf i).toNat)
          case atStart => exact ⟨0, Nat.zero_le _, rfl, by rw [List.take_zero, List.flatMap_nil, List.append_nil]; exact hT30, hK30, bc30⟩
          case round =>
            clear hT30 hK30 bc30
            obtain ⟨q, hq, rfl, hT, hK, bc⟩ := hrel
            by_cases hql : q < C.methods.length
            · have hbw := below_step hbw1 hT.bw
              have hlq := flat_take_len mthT 600 16 q C.methods (fun y hy => (H5.out y hy).1.line) v3
              obtain ⟨bf, of, A5, c5, rfl, hbf, e0, e1, e2, e3, hc5, hs5⟩ := hs3.sg_at hql
              have f0 := keptC e0 hbf hbw
              have f1 := keptC e1 hbf hbw
              have f2 := keptC e2 hbf hbw
              have f3 := keptC e3 hbf hbw
              have hbfl := Nat.lt_of_lt_of_le hbf hbw.size
              obtain ⟨hok, hpl⟩ := H5.out _ (List.getElem_mem hql)
              have HNF : Hid ((C.methods.take (q + 1)).flatMap mthT = (C.methods.take q).flatMap mthT ++ lnT (mthW C.methods[q])) := flat_takeL mthT hql
              generalize C.methods[q] = E at *
              clear e0 e1 e2 e3 hbf hbw
              go_upto_region 20 with fail
              generalize hW : World.alloc _ _ = W3 at *
              have hb3 : Below wr.heap.size wr W3 := by rw [← hW]; exact (by repeat (first | assumption | exact Below.refl _ _ | apply bw_alloc | apply bw_drew | apply bw_drewN | apply bw_later | apply bw_step))
              have bq : Box W3 wr.heap.size [.string E.name, .bool E.static, .slice A5 E.params.length c5, .string E.result] 68 := by rw [← hW]; exact (by repeat (first | (refine Box.at ?_; (simp; done)) | apply Box.drew | apply Box.alloc | assumption))
              have hT1 := hT.mono hb3
              have hK1 := hK.trans (Keeps.below hb3)
              have bc1 := bc.mono hb3
              clear hW f0 f1 f2 f3 hbfl hT hK hb3 bc
              have q0 := bq.cell 0 rfl
              have q1 := bq.cell 1 rfl
              have q2 := bq.cell 2 rfl
              have q3 := bq.cell 3 rfl
              have ql := bq.lt
              go_wp2_with fail
              refine (mthWords_any E _ _ _ (hs5.mono (below_step hbw1 hT1.bw)) (by omega)).mono ?_
              rintro e w6 ⟨⟨g6, o6, c6, rfl, hc6, hs6⟩, hb6⟩
              have hT6 := hT1.mono hb6
              have HLN := Lib.hid (line13 (mthW E) g6 o6 c6 w6 hT6 hs6 hok hc6 (by simp only [List.length_append] at hlq ⊢; omega))
              clear q0 q1 q2 q3 ql bq
              go_wp2_with fail
              refine HLN.out.mono ?_
              rintro e w7 ⟨rfl, hT7, hK7⟩
              rw [List.append_assoc, ← HNF.out] at hT7
              have hK7' := (hK1.trans (Keeps.below hb6)).trans hK7
              have bc7 := hK7.box (by decide) (by decide) (bc1.mono hb6)
              clear HLN hT6 hb6 hK7 HNF hK1 bc1 hs6 hc6
              go_wp2_with fail
              go_roundw
              case rel => exact ⟨q + 1, by omega, by go_num, hT7, hK7', bc7⟩
              case measure => simp [intOf]; omega
            · obtain rfl : q = C.methods.length := by omega
              rw [List.take_length] at hT
              have HTC : Hid (LC ++ C.fields.flatMap fldT ++ C.methods.flatMap mthT = (u.classes.take (k + 1)).flatMap clsT) := by
                show _ = _
                rw [HN.out, HLCD.out]
                unfold clsT
                simp only [List.append_assoc]
              rw [HTC.out] at hT
              go_wp2_with fail
              go_roundw
              case rel => exact ⟨k + 1, by omega, by go_num, hT, hK⟩
              case measure => simp [intOf]; omega
    · obtain rfl : k = u.classes.length := by omega
      rw [List.take_length] at hT
      have hlc := HCL.out u.classes.length
      rw [List.take_length] at hlc
      have HTX : Hid (txtU u = u.classes.flatMap clsT ++ u.funcs.flatMap funT) := rfl
      generalize u.classes.flatMap clsT = TC at *
      have hx := bx1.mono hT.bw
      have p0 := hx.cell 1 rfl
      have pl := hx.lt
      have hT50 : TxB w1 w1.heap.size (TC ++ (u.funcs.take 0).flatMap funT) wr := by rw [List.take_zero, List.flatMap_nil, List.append_nil]; exact hT
      have hK50 := hK
      clear hT hK hx
      go_wp2_with fail
      clear p0 pl
      obtain ⟨wq, hwq⟩ : ∃ wq : World, wq = wr := ⟨_, rfl⟩
      subst hwq
      go_loopw [85] (fun i wr => ∃ k : Nat, k ≤ u.funcs.length ∧ i = .int .i64 k ∧ TxB w1 w1.heap.size (TC ++ (u.funcs.take k).flatMap funT) wr ∧ Keeps w1 wr) (fun i _ => u.funcs.length - (intOf i).toNat)
      case atStart => exact ⟨0, Nat.zero_le _, rfl, hT50, hK50⟩
      case round =>
        clear hT50 hK50
        obtain ⟨k, hk, rfl, hT, hK⟩ := hrel
        by_cases hlt : k < u.funcs.length
        · skip
          have hbw := below_step hbw1 hT.bw
          obtain ⟨b, o, A4, c4, A6, c6, rfl, hb, e0, e1, e2, e3, e4, e5, e6, hc4, hs4, hc6, hs6'⟩ := HSF.out.fun_at hlt
          have d0 := keptC e0 hb hbw
          have d1 := keptC e1 hb hbw
          have d2 := keptC e2 hb hbw
          have d3 := keptC e3 hb hbw
          have d4 := keptC e4 hb hbw
          have d5 := keptC e5 hb hbw
          have d6 := keptC e6 hb hbw
          have hbl := Nat.lt_of_lt_of_le hb hbw.size
          obtain ⟨hok, v2, v3, v4, v5⟩ := HVF.out _ (List.getElem_mem hlt)
          have HN : Hid (TC ++ (u.funcs.take (k + 1)).flatMap funT = (TC ++ (u.funcs.take k).flatMap funT) ++ funT u.funcs[k]) := by
            show _ = _
            rw [flat_takeL funT hlt, List.append_assoc]
          have hl1 : (TC ++ (u.funcs.take k).flatMap funT).length ≤ 310000000 := by
            have := HFL.out k
            rw [List.length_append]; omega
          obtain ⟨L, HL⟩ : ∃ L, Hid (L = TC ++ (u.funcs.take k).flatMap funT) := ⟨_, Lib.hid rfl⟩
          rw [← HL.out] at HN hl1 hT
          have H4 := Lib.hid v4
          have H5 : Hid (∀ x ∈ u.funcs[k].code, InsOk x) := fun x hx => by
            obtain ⟨a, b, c, d, e⟩ := v5 x hx
            exact ⟨a, b, HAR.out _ (List.getElem_mem hlt) x hx, c, d, e⟩
          clear v4 v5 HL e0 e1 e2 e3 e4 e5 e6 hb hbw
          generalize u.funcs[k] = F at *
          go_upto_region 26 with fail
          generalize hW : World.alloc _ _ = W1 at *
          have hb3 : Below wr.heap.size wr W1 := by rw [← hW]; exact (by repeat (first | assumption | exact Below.refl _ _ | apply bw_alloc | apply bw_drew | apply bw_drewN | apply bw_later | apply bw_step))
          have bc : Box W1 wr.heap.size [.string F.cls, .string F.name, .bool F.static, .int .i64 F.nparams, .slice A4 F.vars.length c4, .string F.result, .slice A6 F.code.length c6] 43 := by rw [← hW]; exact (by repeat (first | (refine Box.at ?_; (simp; done)) | apply Box.drew | apply Box.alloc | assumption))
          have hT1 := hT.mono hb3
          have hK1 := hK.trans (Keeps.below hb3)
          clear hW d0 d1 d2 d3 d4 d5 d6 hbl hT hK hb3
          have q1 := bc.cell 1 rfl
          have q0 := bc.cell 0 rfl
          have ql := bc.lt
          have HLC := Lib.hid hok.line
          have hok : WdsOk [bsOf wFunc, F.cls, F.name] := hok
          go_wp2_with fail
          generalize hW : World.alloc _ _ = w6
          have hb6 : Below W1.heap.size W1 w6 := by rw [← hW]; exact (by repeat (first | assumption | exact Below.refl _ _ | apply bw_alloc | apply bw_drew | apply bw_drewN | apply bw_later | apply bw_step))
          have bxw : Box w6 W1.heap.size ([bsOf wFunc, F.cls, F.name].map Value.string) 9 := by rw [← hW]; exact Box.new _ _ _
          clear hW
          have hT6 := hT1.mono hb6
          have HLN : Hid (Calls Tryz.prog 16 #[.slice (some ⟨W1.heap.size, 0, none⟩) 3 3, .pointer (some ⟨w1.heap.size, 0, none⟩)] w6 fun e w' => e = .returned (.tuple #[]) ∧ TxB w1 w1.heap.size (_ ++ lnT [bsOf wFunc, F.cls, F.name]) w' ∧ Keeps w6 w') := line13 [bsOf wFunc, F.cls, F.name] W1.heap.size 0 3 w6 hT6 bxw.strs hok (Nat.le_refl _) (by first | omega | (rw [List.length_append]; omega))
          refine HLN.out.mono ?_
          rintro e w7 ⟨rfl, hT7, hK7⟩
          have hK20 := (hK1.trans (Keeps.below hb6)).trans hK7
          have bc20 := hK7.box (by decide) (by decide) (bc.mono hb6)
          clear HLN hT6 hb6 bxw hK7 q0 q1 ql bc hK1 hT1 hok
          obtain ⟨LF, HLCD⟩ : ∃ LF, Hid (LF = L ++ lnT (funW F)) := ⟨_, Lib.hid rfl⟩
          have hT20 : TxB w1 w1.heap.size LF w7 := by rw [HLCD.out]; exact hT7
          have hl3 : LF.length ≤ 320000000 := by have := HLC.out; rw [HLCD.out, List.length_append]; omega
          clear hT7 HLC
          have q2 := bc20.cell 4 rfl
          have ql := bc20.lt
          go_wp2_with fail
          clear q2 ql
          obtain ⟨wo, hwo⟩ : ∃ wo : World, wo = wr := ⟨_, rfl⟩
          subst hwo
          go_loopw [99] (fun i wr => ∃ q : Nat, q ≤ F.vars.length ∧ i = .int .i64 q ∧ TxB w1 w1.heap.size (LF ++ (F.vars.take q).flatMap varT) wr ∧ Keeps w1 wr ∧ Box wr wo.heap.size [.string F.cls, .string F.name, .bool F.static, .int .i64 F.nparams, .slice A4 F.vars.length c4, .string F.result, .slice A6 F.code.length c6] 43) (fun i _ => F.vars.length - (intOf i).toNat)
          case atStart => exact ⟨0, Nat.zero_le _, rfl, by rw [List.take_zero, List.flatMap_nil, List.append_nil]; exact hT20, hK20, bc20⟩
          case round =>
            clear hT20 hK20 bc20
            obtain ⟨q, hq, rfl, hT, hK, bc⟩ := hrel
            by_cases hql : q < F.vars.length
            · have hbw := below_step hbw1 hT.bw
              have hlq := flat_take_len varT 600 256 q F.vars (fun y hy => (H4.out y hy).line) v2
              obtain ⟨bf, of, rfl, hbf, e0, e1⟩ := hs4.fld_at hql
              have f0 := keptC e0 hbf hbw
              have f1 := keptC e1 hbf hbw
              have hbfl := Nat.lt_of_lt_of_le hbf hbw.size
              have hok := H4.out _ (List.getElem_mem hql)
              have HNF : Hid ((F.vars.take (q + 1)).flatMap varT = (F.vars.take q).flatMap varT ++ lnT [bsOf wVar, F.vars[q].name, F.vars[q].typ]) := flat_takeL varT hql
              generalize F.vars[q] = E at *
              clear e0 e1 hbf hbw
              go_upto_region 30 with fail
              generalize hW : World.alloc _ _ = W3 at *
              have hb3 : Below wr.heap.size wr W3 := by rw [← hW]; exact (by repeat (first | assumption | exact Below.refl _ _ | apply bw_alloc | apply bw_drew | apply bw_drewN | apply bw_later | apply bw_step))
              have bq : Box W3 wr.heap.size [.string E.name, .string E.typ] 66 := by rw [← hW]; exact (by repeat (first | (refine Box.at ?_; (simp; done)) | apply Box.drew | apply Box.alloc | assumption))
              have hT1 := hT.mono hb3
              have hK1 := hK.trans (Keeps.below hb3)
              have bc1 := bc.mono hb3
              clear hW f0 f1 hbfl hT hK hb3 bc
              have q0 := bq.cell 0 rfl
              have q1 := bq.cell 1 rfl
              have ql := bq.lt
              go_wp2_with fail
              generalize hW : World.alloc _ _ = w6
              have hb6 : Below W3.heap.size W3 w6 := by rw [← hW]; exact (by repeat (first | assumption | exact Below.refl _ _ | apply bw_alloc | apply bw_drew | apply bw_drewN | apply bw_later | apply bw_step))
              have bxw : Box w6 W3.heap.size ([bsOf wVar, E.name, E.typ].map Value.string) 9 := by rw [← hW]; exact Box.new _ _ _
              clear hW
              have hT6 := hT1.mono hb6
              have HLN : Hid (Calls Tryz.prog 16 #[.slice (some ⟨W3.heap.size, 0, none⟩) 3 3, .pointer (some ⟨w1.heap.size, 0, none⟩)] w6 fun e w' => e = .returned (.tuple #[]) ∧ TxB w1 w1.heap.size (_ ++ lnT [bsOf wVar, E.name, E.typ]) w' ∧ Keeps w6 w') := line13 [bsOf wVar, E.name, E.typ] W3.heap.size 0 3 w6 hT6 bxw.strs hok (Nat.le_refl _) (by first | omega | (rw [List.length_append]; omega))
              refine HLN.out.mono ?_
              rintro e w7 ⟨rfl, hT7, hK7⟩
              rw [List.append_assoc, ← HNF.out] at hT7
              have hK7' := (hK1.trans (Keeps.below hb6)).trans hK7
              have bc7 := hK7.box (by decide) (by decide) (bc1.mono hb6)
              clear HLN hT6 hb6 bxw hK7 HNF bq q0 q1 ql hK1 bc1
              go_wp2_with fail
              go_roundw
              case rel => exact ⟨q + 1, by omega, by go_num, hT7, hK7', bc7⟩
              case measure => simp [intOf]; omega
            · obtain rfl : q = F.vars.length := by omega
              rw [List.take_length] at hT
              have hlf := flat_take_len varT 600 256 F.vars.length F.vars (fun y hy => (H4.out y hy).line) v2
              rw [List.take_length] at hlf
              have hlb : (LF ++ F.vars.flatMap varT).length ≤ 400000000 := by rw [List.length_append]; omega
              have q3 := bc.cell 6 rfl
              have ql := bc.lt
              have hT30 := hT
              have hK30 := hK
              have bc30 := bc
              clear hT hK bc hql
              go_wp2_with fail
              clear q3 ql
              obtain ⟨wp, hwp⟩ : ∃ wp : World, wp = wr := ⟨_, rfl⟩
              subst hwp
              go_loopw [114] (fun i wr => ∃ q : Nat, q ≤ F.code.length ∧ i = .int .i64 q ∧ TxB w1 w1.heap.size (LF ++ F.vars.flatMap varT ++ (F.code.take q).flatMap insTx) wr ∧ Keeps w1 wr ∧ Box wr wo.heap.size [.string F.cls, .string F.name, .bool F.static, .int .i64 F.nparams, .slice A4 F.vars.length c4, .string F.result, .slice A6 F.code.length c6] 43) (fun i _ => F.code.length - (intOf i).toNat)
              case atStart => exact ⟨0, Nat.zero_le _, rfl, by rw [List.take_zero, List.flatMap_nil, List.append_nil]; exact hT30, hK30, bc30⟩
              case round =>
                clear hT30 hK30 bc30
                obtain ⟨q, hq, rfl, hT, hK, bc⟩ := hrel
                by_cases hql : q < F.code.length
                · have hbw := below_step hbw1 hT.bw
                  have hlq := flat_take_len insTx 600 1024 q F.code (fun y hy => (H5.out y hy).w.line) v3
                  obtain ⟨bf, of, A5, c5, rfl, hbf, e0, e1, e2, e3, e4, e5, e6, e7, e8, e9, hc5, hs5⟩ := hs6'.ins_at hql
                  have f0 := keptC e0 hbf hbw
                  have f1 := keptC e1 hbf hbw
                  have f2 := keptC e2 hbf hbw
                  have f3 := keptC e3 hbf hbw
                  have f4 := keptC e4 hbf hbw
                  have f5 := keptC e5 hbf hbw
                  have f6 := keptC e6 hbf hbw
                  have f7 := keptC e7 hbf hbw
                  have f8 := keptC e8 hbf hbw
                  have f9 := keptC e9 hbf hbw
                  have hbfl := Nat.lt_of_lt_of_le hbf hbw.size
                  have HX := Lib.hid (H5.out _ (List.getElem_mem hql))
                  have HNF : Hid ((F.code.take (q + 1)).flatMap insTx = (F.code.take q).flatMap insTx ++ lnT (insW F.code[q])) := flat_takeL insTx hql
                  generalize F.code[q] = E at *
                  clear e0 e1 e2 e3 e4 e5 e6 e7 e8 e9 hbf hbw
                  go_upto_region 35 with fail
                  generalize hW : World.alloc _ _ = W3 at *
                  have hb3 : Below wr.heap.size wr W3 := by rw [← hW]; exact (by repeat (first | assumption | exact Below.refl _ _ | apply bw_alloc | apply bw_drew | apply bw_drewN | apply bw_later | apply bw_step))
                  have bq : Box W3 wr.heap.size [.int .i64 E.op, .int .i64 E.dst, .int .i64 E.a, .int .i64 E.b, .int .i64 E.n, .string E.cls, .string E.name, .slice A5 E.args.length c5, .int .i64 E.jmp, .int .i64 E.hnd] 47 := by rw [← hW]; exact (by repeat (first | (refine Box.at ?_; (simp; done)) | apply Box.drew | apply Box.alloc | assumption))
                  have hT1 := hT.mono hb3
                  have hK1 := hK.trans (Keeps.below hb3)
                  have bc1 := bc.mono hb3
                  clear hW f0 f1 f2 f3 f4 f5 f6 f7 f8 f9 hbfl hT hK hb3 bc
                  have q0 := bq.cell 0 rfl
                  have q1 := bq.cell 1 rfl
                  have q2 := bq.cell 2 rfl
                  have q3 := bq.cell 3 rfl
                  have q4 := bq.cell 4 rfl
                  have q5 := bq.cell 5 rfl
                  have q6 := bq.cell 6 rfl
                  have q7 := bq.cell 7 rfl
                  have q8 := bq.cell 8 rfl
                  have q9 := bq.cell 9 rfl
                  have ql := bq.lt
                  go_wp2_with fail
                  refine (insWords_any E _ _ _ (hg1.mono hT1.bw) (hs5.mono (below_step hbw1 hT1.bw)) HX.out.args HX.out.i HX.out.z0 HX.out.z17 HX.out.z4).mono ?_
                  rintro e w6 ⟨⟨g6, o6, c6', rfl, hc6', hs6⟩, hb6⟩
                  have hT6 := hT1.mono hb6
                  have HLN := Lib.hid (line13 (insW E) g6 o6 c6' w6 hT6 hs6 HX.out.w hc6' (by simp only [List.length_append] at hlq ⊢; omega))
                  clear q0 q1 q2 q3 q4 q5 q6 q7 q8 q9 ql bq
                  go_wp2_with fail
                  refine HLN.out.mono ?_
                  rintro e w7 ⟨rfl, hT7, hK7⟩
                  rw [List.append_assoc, ← HNF.out] at hT7
                  have hK7' := (hK1.trans (Keeps.below hb6)).trans hK7
                  have bc7 := hK7.box (by decide) (by decide) (bc1.mono hb6)
                  clear HLN hT6 hb6 hK7 HNF hK1 bc1 hs6 hc6'
                  go_wp2_with fail
                  go_roundw
                  case rel => exact ⟨q + 1, by omega, by go_num, hT7, hK7', bc7⟩
                  case measure => simp [intOf]; omega
                · obtain rfl : q = F.code.length := by omega
                  rw [List.take_length] at hT
                  have HTC : Hid (LF ++ F.vars.flatMap varT ++ F.code.flatMap insTx = TC ++ (u.funcs.take (k + 1)).flatMap funT) := by
                    show _ = _
                    rw [HN.out, HLCD.out]
                    unfold funT
                    simp only [List.append_assoc]
                  rw [HTC.out] at hT
                  go_wp2_with fail
                  go_roundw
                  case rel => exact ⟨k + 1, by omega, by go_num, hT, hK⟩
                  case measure => simp [intOf]; omega
        · obtain rfl : k = u.funcs.length := by omega
          rw [List.take_length, ← HTX.out] at hT
          have hbd := hT.bd
          have hll := HFL.out u.funcs.length
          have htl : (txtU u).length ≤ 310000000 := by
            rw [List.take_length] at hll
            rw [HTX.out, List.length_append]; omega
          generalize txtU u = TX at *
          go_wp2_with fail
          refine hbd.lenU.mono ?_
          rintro e w6 ⟨rfl, rfl⟩
          have hT6 := hT
          by_cases hlong : 65536 < TX.length
          · have HB := Lib.hid (HF.out.trans (if_pos hlong))
            have hli : (65536 : Int) < TX.length := by omega
            clear hlong
            go_wp2_with fail
            go_ret2
            exact ⟨HRET.out _ _ HB.out, hbw1.trans (hT6.bw.mono hbw1.size)⟩
          · have HB := Lib.hid (HF.out.trans (if_neg hlong))
            have hli : ¬ (65536 : Int) < TX.length := by omega
            clear hlong
            go_wp2_with fail
            refine (Tryz.Builder_String_any _ _ _ _ hT6.bd (Nat.le_of_lt hT6.bd.lt)).mono ?_
            rintro e w8 ⟨rfl, hb8⟩
            have hbw8 : Below w.heap.size w w8 := (below_step hbw1 hT6.bw).trans (hb8.mono (Nat.le_of_lt bx1.lt))
            go_wp2_with fail
            go_ret2
            exact ⟨HRET.out _ _ HB.out, hbw8⟩
end Go.Proofs.YticpeombillmeaaGreatDoor
