/-
  Joined (wip/merge.py): PrsG, PrsH, PrsI, PrsJ, PrsK, PrsL.
-/
import Derived.Test.YthabojhnliomnaaGreatDoorMgA
import Derived.Test.YthabojhnliomnaaGreatDoorHierG
import Derived.Laws.EntriesVeiled
import Derived.Deep.RegionLaw
import Derived.Test.YthabojhnliomnaaGreatDoorPolP

namespace Go.Proofs.YthabojhnliomnaaGreatDoor
open Go.RowKit
set_option linter.unusedVariables false

structure Rd where
  cls : ByteArray
  states : List ByteArray
  start : Int
  err : Int
  moves : List Mov
  stage : Nat
/-- One line: the state behind it, and the error. -/
def stepR (r : Rd) (ws : List ByteArray) : Rd × Int :=
  match r.stage with
  | 0 => if toL (ws.headD ⟨#[]⟩) = [112, 114, 111, 116, 111, 99, 111, 108] ∧ ws.length = 2 then ({ r with cls := ws.getD 1 ⟨#[]⟩, stage := 1 }, 0) else (r, 2)
  | 1 => if toL (ws.headD ⟨#[]⟩) = [115, 116, 97, 116, 101, 115] ∧ 2 ≤ ws.length then ({ r with states := ws.tail, stage := 2 }, 0) else (r, 2)
  | 2 => if toL (ws.headD ⟨#[]⟩) = [115, 116, 97, 114, 116] ∧ ws.length = 2 then (if 0 ≤ atI r.states (ws.getD 1 ⟨#[]⟩) then ({ r with start := atI r.states (ws.getD 1 ⟨#[]⟩), stage := 3 }, 0) else ({ r with start := atI r.states (ws.getD 1 ⟨#[]⟩), stage := 2 }, 6)) else (r, 2)
  | 3 => if toL (ws.headD ⟨#[]⟩) = [101, 114, 114, 111, 114] ∧ ws.length = 2 then (if 0 ≤ atI r.states (ws.getD 1 ⟨#[]⟩) then ({ r with err := atI r.states (ws.getD 1 ⟨#[]⟩), stage := 4 }, 0) else ({ r with err := atI r.states (ws.getD 1 ⟨#[]⟩), stage := 3 }, 6)) else (r, 2)
  | 4 => if toL (ws.headD ⟨#[]⟩) = [101, 110, 100] ∧ ws.length = 1 then ({ r with stage := 5 }, 0) else if toL (ws.headD ⟨#[]⟩) = [109, 111, 118, 101] ∧ ws.length = 4 then (if 0 ≤ atI r.states (ws.getD 1 ⟨#[]⟩) ∧ 0 ≤ atI r.states (ws.getD 3 ⟨#[]⟩) then ({ r with moves := r.moves ++ [⟨atI r.states (ws.getD 1 ⟨#[]⟩), ws.getD 2 ⟨#[]⟩, atI r.states (ws.getD 3 ⟨#[]⟩)⟩] }, 0) else (r, 6)) else (r, 2)
  | _ => (r, 2)
def stFn : Nat → FuncId
  | 0 => 94
  | 1 => 138
  | 2 => 183
  | 3 => 213
  | 4 => 232
  | _ => 241
theorem ne2 {n : Nat} (h : ¬ n = 2) : ((n : Int) != 2) = true := by
  have h2 : (n : Int) ≠ 2 := by omega
  simpa using h2
theorem ne4 {n : Nat} (h : ¬ n = 4) : ((n : Int) != 4) = true := by
  have h2 : (n : Int) ≠ 4 := by omega
  simpa using h2
theorem atI_ge (l : List ByteArray) (s : ByteArray) : -1 ≤ atI l s := by
  unfold atI
  split <;> omega
theorem idx_at {l : List ByteArray} {s : ByteArray} : idxI (isStr s) l = atI l s := by
  unfold idxI atI isStr
  have : (fun x : ByteArray => s.toList == x.toList) = (fun x => x.toList == s.toList) := by
    funext x
    exact Bool.beq_comm
  rw [this]
  rfl
def cellsMv (x : Mov) : List Value := cellsMov x
theorem movsTy : ElemTy Tryz.prog 61 103 3 32 (.agg #[.int .i64 0, .string ByteArray.empty, .int .i64 0]) := ⟨Tryz.underlying61, by kernel_rfl, rfl, by omega⟩
/-- The reader's block, with its two rows, and the result's. -/
structure InX (w : World) (b : Nat) (A1 : Option Addr) (n1 c1 : Nat) (A4 : Option Addr) (n4 c4 : Nat) (cs : List Value) (sts : List ByteArray) (mvs : List Mov) (W : World) : Prop where
  bx : Box W b cs 132
  os : Own cellsStr 1 (b + 1) 9 W (.slice A1 n1 c1) sts
  om : Own cellsMov 3 (b + 1) 103 W (.slice A4 n4 c4) mvs
  br : Box W w.heap.size [.string ⟨#[]⟩, .slice none 0 0, .int .i64 0, .int .i64 0, .slice none 0 0] 63
  bel : Below w.heap.size w W
  lt : w.heap.size < b
  sl : sts.length ≤ 100000
  ml : mvs.length ≤ 100000
section
variable {w W W' : World} {b : Nat} {A1 A4 : Option Addr} {n1 c1 n4 c4 : Nat} {cs : List Value} {sts : List ByteArray} {mvs : List Mov}
theorem InX.mono (h : InX w b A1 n1 c1 A4 n4 c4 cs sts mvs W) (hb : Below W.heap.size W W') : InX w b A1 n1 c1 A4 n4 c4 cs sts mvs W' := ⟨h.bx.mono hb, h.os.mono hb, h.om.mono hb, h.br.mono hb, below_step h.bel hb, h.lt, h.sl, h.ml⟩
theorem InX.put (h : InX w b A1 n1 c1 A4 n4 c4 cs sts mvs W) (i : Nat) (v : Value) : InX w b A1 n1 c1 A4 n4 c4 (cs.set i v) sts mvs (W.setCell ⟨b, i, none⟩ v) := by
  have hg := grown_set W b i v
  have hl := h.lt
  exact ⟨h.bx.set i v, h.os.kept hg (fun k hk hv => by injection hk with hk; have := (World.ownsRow.lt h.os k hv).1; omega), h.om.kept hg (fun k hk hv => by injection hk with hk; have := (World.ownsRow.lt h.om k hv).1; omega), h.br.grown hg (fun e => by have := Option.some.inj e; omega), h.bel.setCell (by simp; omega) _, hl, h.sl, h.ml⟩
end
def InR (w : World) (b : Nat) (r : Rd) (W : World) : Prop := ∃ A1 n1 c1 A4 n4 c4, InX w b A1 n1 c1 A4 n4 c4 [.string r.cls, .slice A1 n1 c1, .int .i64 r.start, .int .i64 r.err, .slice A4 n4 c4, .bool (decide (r.stage = 5)), .func (.func (stFn r.stage)) #[.pointer (some ⟨b, 0, none⟩)] #[]] r.states r.moves W
set_option maxRecDepth 100000 in
set_option maxHeartbeats 4000000 in
theorem rdStart {w W : World} {b : Nat} {r : Rd} (ws : List ByteArray) (nw : Nat) (h : InR w b r W) (hst : r.stage = 2) (h0 : 0 < ws.length) (hl : ws.length ≤ 100000) (hsl : Sl Lay.str W (some ⟨nw, 0, none⟩) ws) :
    Calls Tryz.prog 183 #[.pointer (some ⟨b, 0, none⟩), .slice (some ⟨nw, 0, none⟩) ws.length ws.length] W fun e W' => e = .returned (.int .i64 (stepR r ws).2) ∧ InR w b (stepR r ws).1 W' := by
  obtain ⟨cl, sts, st, er, mvs, sg⟩ := r
  simp only at hst
  subst hst
  obtain ⟨A1, n1, c1, A4, n4, c4, hx⟩ := h
  simp only at hx
  obtain ⟨bN, oN, eN, hbN, d0⟩ := hsl.str_at h0
  injection eN with eN
  injection eN with z1 z2
  subst z1 z2
  have d0' : W.cell? ⟨nw, 0, none⟩ = some (.string ws[0]) := d0
  clear d0
  have HW0 : Hid (toL (ws.headD ⟨#[]⟩) = toL ws[0]) := by
    show _ = _
    cases ws with
    | nil => simp at h0
    | cons a t => rfl
  by_cases hw : toL ws[0] = [115, 116, 97, 114, 116]
  case neg =>
    have HS : Hid (stepR ⟨cl, sts, st, er, mvs, 2⟩ ws = (⟨cl, sts, st, er, mvs, 2⟩, 2)) := by
      show _ = _
      unfold stepR
      simp only
      rw [if_neg (fun e => hw (by rw [← HW0.out]; exact e.1))]
    rw [HS.out]
    clear HS
    have t1 := neB hw
    have t2 : (ws[0].toList != [115, 116, 97, 114, 116]) = true := by rw [bne, t1]; rfl
    clear hw
    go_enter Tryz.func183, Tryz.ntmps183
    go_wp2_with fail
    go_ret
    exact ⟨rfl, ⟨A1, n1, c1, A4, n4, c4, hx⟩⟩
  have t1 := eqB hw
  have t2 : (ws[0].toList != [115, 116, 97, 114, 116]) = false := by rw [bne, t1]; rfl
  by_cases h2 : ws.length = 2
  case neg =>
    have HS : Hid (stepR ⟨cl, sts, st, er, mvs, 2⟩ ws = (⟨cl, sts, st, er, mvs, 2⟩, 2)) := by
      show _ = _
      unfold stepR
      simp only
      rw [if_neg (fun e => h2 e.2)]
    rw [HS.out]
    clear HS
    have t3 := ne2 h2
    clear hw h2
    go_enter Tryz.func183, Tryz.ntmps183
    go_wp2_with fail
    go_ret
    exact ⟨rfl, ⟨A1, n1, c1, A4, n4, c4, hx⟩⟩
  have t3 : ((ws.length : Int) != 2) = false := by rw [h2]; rfl
  have h1l : 1 < ws.length := by omega
  obtain ⟨bN, oN, eN, hbN', d1⟩ := hsl.str_at h1l
  injection eN with eN
  injection eN with z1 z2
  subst z1 z2
  have d1' : W.cell? ⟨nw, 1, none⟩ = some (.string ws[1]) := d1
  clear d1
  obtain ⟨AT, HAT⟩ : ∃ AT : Int, Hid (AT = atI sts ws[1]) := ⟨_, Lib.hid rfl⟩
  obtain ⟨A6, c6, hv6, hc6, hs6⟩ := StrsV.of_own hx.os
  injection hv6 with z1 z2 z3
  subst z1 z2 z3
  have HIX : Hid (∀ x : Later W, Calls Tryz.prog 125 #[.slice A1 sts.length c1, .string ws[1]] x.W fun e w' => e = .returned (.int .i64 AT) ∧ x.W = w') := fun x => by
    rw [HAT.out, ← idx_at]
    exact sIndex_any A1 c1 sts ws[1] x.W (by have := hx.sl; omega) (hs6.later x)
  have HW1 : Hid (ws.getD 1 ⟨#[]⟩ = ws[1]) := by show _ = _; simp [List.getD, h1l]
  have HS : Hid (stepR ⟨cl, sts, st, er, mvs, 2⟩ ws = if 0 ≤ AT then (⟨cl, sts, AT, er, mvs, 3⟩, 0) else (⟨cl, sts, AT, er, mvs, 2⟩, 6)) := by
    show _ = _
    unfold stepR
    simp only
    rw [if_pos ⟨HW0.out.trans hw, h2⟩, HW1.out, ← HAT.out]
  rw [HS.out]
  have hfb : -1 ≤ AT := by rw [HAT.out]; exact atI_ge sts ws[1]
  clear HS HW0 HW1 HAT hw h2
  have p1 := hx.bx.cell 1 rfl
  have pl := hx.bx.lt
  by_cases ha : 0 ≤ AT
  · rw [if_pos ha]
    go_enter Tryz.func183, Tryz.ntmps183
    go_wp2_with fail
    refine wp_region_later_tail 13 (by kernel_rfl) (by kernel_rfl) ?_
    simp only [List.take_succ_cons, List.take_zero, List.drop_succ_cons, List.drop_zero]
    repeat (go_big_quiet_step (first | (go_at_call 125; exact Calls.later_same (HIX.out _))))
    refine wpQuiet_nil ?_
    rintro _ ⟨z, rfl⟩
    have hz := hx.mono z.h
    generalize z.W = wz at *
    clear p1 pl
    have q2 := hz.bx.cell 2 rfl
    have q6 := hz.bx.cell 6 rfl
    have qf := fun i => hz.bx.free i
    have ql := hz.bx.lt
    have hn := (hz.put 2 (.int .i64 AT)).put 6 (.func (.func 213) #[.pointer (some ⟨b, 0, none⟩)] #[])
    go_wp2_with fail
    go_ret
    exact ⟨rfl, ⟨A1, sts.length, c1, A4, n4, c4, hn⟩⟩
  · rw [if_neg ha]
    go_enter Tryz.func183, Tryz.ntmps183
    go_wp2_with fail
    refine wp_region_later_tail 13 (by kernel_rfl) (by kernel_rfl) ?_
    simp only [List.take_succ_cons, List.take_zero, List.drop_succ_cons, List.drop_zero]
    repeat (go_big_quiet_step (first | (go_at_call 125; exact Calls.later_same (HIX.out _))))
    refine wpQuiet_nil ?_
    rintro _ ⟨z, rfl⟩
    have hz := hx.mono z.h
    generalize z.W = wz at *
    clear p1 pl
    have q2 := hz.bx.cell 2 rfl
    have q6 := hz.bx.cell 6 rfl
    have qf := fun i => hz.bx.free i
    have ql := hz.bx.lt
    have hn := hz.put 2 (.int .i64 AT)
    go_wp2_with fail
    go_ret
    exact ⟨rfl, ⟨A1, sts.length, c1, A4, n4, c4, hn⟩⟩
set_option maxRecDepth 100000 in
set_option maxHeartbeats 4000000 in
theorem rdFail {w W : World} {b : Nat} {r : Rd} (ws : List ByteArray) (nw : Nat) (h : InR w b r W) (hst : r.stage = 3) (h0 : 0 < ws.length) (hl : ws.length ≤ 100000) (hsl : Sl Lay.str W (some ⟨nw, 0, none⟩) ws) :
    Calls Tryz.prog 213 #[.pointer (some ⟨b, 0, none⟩), .slice (some ⟨nw, 0, none⟩) ws.length ws.length] W fun e W' => e = .returned (.int .i64 (stepR r ws).2) ∧ InR w b (stepR r ws).1 W' := by
  obtain ⟨cl, sts, st, er, mvs, sg⟩ := r
  simp only at hst
  subst hst
  obtain ⟨A1, n1, c1, A4, n4, c4, hx⟩ := h
  simp only at hx
  obtain ⟨bN, oN, eN, hbN, d0⟩ := hsl.str_at h0
  injection eN with eN
  injection eN with z1 z2
  subst z1 z2
  have d0' : W.cell? ⟨nw, 0, none⟩ = some (.string ws[0]) := d0
  clear d0
  have HW0 : Hid (toL (ws.headD ⟨#[]⟩) = toL ws[0]) := by
    show _ = _
    cases ws with
    | nil => simp at h0
    | cons a t => rfl
  by_cases hw : toL ws[0] = [101, 114, 114, 111, 114]
  case neg =>
    have HS : Hid (stepR ⟨cl, sts, st, er, mvs, 3⟩ ws = (⟨cl, sts, st, er, mvs, 3⟩, 2)) := by
      show _ = _
      unfold stepR
      simp only
      rw [if_neg (fun e => hw (by rw [← HW0.out]; exact e.1))]
    rw [HS.out]
    clear HS
    have t1 := neB hw
    have t2 : (ws[0].toList != [101, 114, 114, 111, 114]) = true := by rw [bne, t1]; rfl
    clear hw
    go_enter Tryz.func213, Tryz.ntmps213
    go_wp2_with fail
    go_ret
    exact ⟨rfl, ⟨A1, n1, c1, A4, n4, c4, hx⟩⟩
  have t1 := eqB hw
  have t2 : (ws[0].toList != [101, 114, 114, 111, 114]) = false := by rw [bne, t1]; rfl
  by_cases h2 : ws.length = 2
  case neg =>
    have HS : Hid (stepR ⟨cl, sts, st, er, mvs, 3⟩ ws = (⟨cl, sts, st, er, mvs, 3⟩, 2)) := by
      show _ = _
      unfold stepR
      simp only
      rw [if_neg (fun e => h2 e.2)]
    rw [HS.out]
    clear HS
    have t3 := ne2 h2
    clear hw h2
    go_enter Tryz.func213, Tryz.ntmps213
    go_wp2_with fail
    go_ret
    exact ⟨rfl, ⟨A1, n1, c1, A4, n4, c4, hx⟩⟩
  have t3 : ((ws.length : Int) != 2) = false := by rw [h2]; rfl
  have h1l : 1 < ws.length := by omega
  obtain ⟨bN, oN, eN, hbN', d1⟩ := hsl.str_at h1l
  injection eN with eN
  injection eN with z1 z2
  subst z1 z2
  have d1' : W.cell? ⟨nw, 1, none⟩ = some (.string ws[1]) := d1
  clear d1
  obtain ⟨AT, HAT⟩ : ∃ AT : Int, Hid (AT = atI sts ws[1]) := ⟨_, Lib.hid rfl⟩
  obtain ⟨A6, c6, hv6, hc6, hs6⟩ := StrsV.of_own hx.os
  injection hv6 with z1 z2 z3
  subst z1 z2 z3
  have HIX : Hid (∀ x : Later W, Calls Tryz.prog 125 #[.slice A1 sts.length c1, .string ws[1]] x.W fun e w' => e = .returned (.int .i64 AT) ∧ x.W = w') := fun x => by
    rw [HAT.out, ← idx_at]
    exact sIndex_any A1 c1 sts ws[1] x.W (by have := hx.sl; omega) (hs6.later x)
  have HW1 : Hid (ws.getD 1 ⟨#[]⟩ = ws[1]) := by show _ = _; simp [List.getD, h1l]
  have HS : Hid (stepR ⟨cl, sts, st, er, mvs, 3⟩ ws = if 0 ≤ AT then (⟨cl, sts, st, AT, mvs, 4⟩, 0) else (⟨cl, sts, st, AT, mvs, 3⟩, 6)) := by
    show _ = _
    unfold stepR
    simp only
    rw [if_pos ⟨HW0.out.trans hw, h2⟩, HW1.out, ← HAT.out]
  rw [HS.out]
  have hfb : -1 ≤ AT := by rw [HAT.out]; exact atI_ge sts ws[1]
  clear HS HW0 HW1 HAT hw h2
  have p1 := hx.bx.cell 1 rfl
  have pl := hx.bx.lt
  by_cases ha : 0 ≤ AT
  · rw [if_pos ha]
    go_enter Tryz.func213, Tryz.ntmps213
    go_wp2_with fail
    refine wp_region_later_tail 13 (by kernel_rfl) (by kernel_rfl) ?_
    simp only [List.take_succ_cons, List.take_zero, List.drop_succ_cons, List.drop_zero]
    repeat (go_big_quiet_step (first | (go_at_call 125; exact Calls.later_same (HIX.out _))))
    refine wpQuiet_nil ?_
    rintro _ ⟨z, rfl⟩
    have hz := hx.mono z.h
    generalize z.W = wz at *
    clear p1 pl
    have q3 := hz.bx.cell 3 rfl
    have q6 := hz.bx.cell 6 rfl
    have qf := fun i => hz.bx.free i
    have ql := hz.bx.lt
    have hn := (hz.put 3 (.int .i64 AT)).put 6 (.func (.func 232) #[.pointer (some ⟨b, 0, none⟩)] #[])
    go_wp2_with fail
    go_ret
    exact ⟨rfl, ⟨A1, sts.length, c1, A4, n4, c4, hn⟩⟩
  · rw [if_neg ha]
    go_enter Tryz.func213, Tryz.ntmps213
    go_wp2_with fail
    refine wp_region_later_tail 13 (by kernel_rfl) (by kernel_rfl) ?_
    simp only [List.take_succ_cons, List.take_zero, List.drop_succ_cons, List.drop_zero]
    repeat (go_big_quiet_step (first | (go_at_call 125; exact Calls.later_same (HIX.out _))))
    refine wpQuiet_nil ?_
    rintro _ ⟨z, rfl⟩
    have hz := hx.mono z.h
    generalize z.W = wz at *
    clear p1 pl
    have q3 := hz.bx.cell 3 rfl
    have q6 := hz.bx.cell 6 rfl
    have qf := fun i => hz.bx.free i
    have ql := hz.bx.lt
    have hn := hz.put 3 (.int .i64 AT)
    go_wp2_with fail
    go_ret
    exact ⟨rfl, ⟨A1, sts.length, c1, A4, n4, c4, hn⟩⟩
set_option maxRecDepth 100000 in
set_option maxHeartbeats 4000000 in
theorem rdClass9 {w W : World} {b : Nat} {r : Rd} (ws : List ByteArray) (nw : Nat) (h : InR w b r W) (hst : r.stage = 0) (h0 : 0 < ws.length) (hl : ws.length ≤ 100000) (hsl : Sl Lay.str W (some ⟨nw, 0, none⟩) ws) :
    Calls Tryz.prog 94 #[.pointer (some ⟨b, 0, none⟩), .slice (some ⟨nw, 0, none⟩) ws.length ws.length] W fun e W' => e = .returned (.int .i64 (stepR r ws).2) ∧ InR w b (stepR r ws).1 W' := by
  obtain ⟨cl, sts, st, er, mvs, sg⟩ := r
  simp only at hst
  subst hst
  obtain ⟨A1, n1, c1, A4, n4, c4, hx⟩ := h
  simp only at hx
  obtain ⟨bN, oN, eN, hbN, d0⟩ := hsl.str_at h0
  injection eN with eN
  injection eN with z1 z2
  subst z1 z2
  have d0' : W.cell? ⟨nw, 0, none⟩ = some (.string ws[0]) := d0
  clear d0
  have HW0 : Hid (toL (ws.headD ⟨#[]⟩) = toL ws[0]) := by
    show _ = _
    cases ws with
    | nil => simp at h0
    | cons a t => rfl
  by_cases hw : toL ws[0] = [112, 114, 111, 116, 111, 99, 111, 108]
  case neg =>
    have HS : Hid (stepR ⟨cl, sts, st, er, mvs, 0⟩ ws = (⟨cl, sts, st, er, mvs, 0⟩, 2)) := by
      show _ = _
      unfold stepR
      simp only
      rw [if_neg (fun e => hw (by rw [← HW0.out]; exact e.1))]
    rw [HS.out]
    clear HS
    have t1 := neB hw
    have t2 : (ws[0].toList != [112, 114, 111, 116, 111, 99, 111, 108]) = true := by rw [bne, t1]; rfl
    clear hw
    go_enter Tryz.func94, Tryz.ntmps94
    go_wp2_with fail
    go_ret
    exact ⟨rfl, ⟨A1, n1, c1, A4, n4, c4, hx⟩⟩
  have t1 := eqB hw
  have t2 : (ws[0].toList != [112, 114, 111, 116, 111, 99, 111, 108]) = false := by rw [bne, t1]; rfl
  by_cases h2 : ws.length = 2
  case neg =>
    have HS : Hid (stepR ⟨cl, sts, st, er, mvs, 0⟩ ws = (⟨cl, sts, st, er, mvs, 0⟩, 2)) := by
      show _ = _
      unfold stepR
      simp only
      rw [if_neg (fun e => h2 e.2)]
    rw [HS.out]
    clear HS
    have t3 := ne2 h2
    clear hw h2
    go_enter Tryz.func94, Tryz.ntmps94
    go_wp2_with fail
    go_ret
    exact ⟨rfl, ⟨A1, n1, c1, A4, n4, c4, hx⟩⟩
  have t3 : ((ws.length : Int) != 2) = false := by rw [h2]; rfl
  have h1l : 1 < ws.length := by omega
  obtain ⟨bN, oN, eN, hbN', d1⟩ := hsl.str_at h1l
  injection eN with eN
  injection eN with z1 z2
  subst z1 z2
  have d1' : W.cell? ⟨nw, 1, none⟩ = some (.string ws[1]) := d1
  clear d1
  have HW1 : Hid (ws.getD 1 ⟨#[]⟩ = ws[1]) := by show _ = _; simp [List.getD, h1l]
  have HS : Hid (stepR ⟨cl, sts, st, er, mvs, 0⟩ ws = (⟨ws[1], sts, st, er, mvs, 1⟩, 0)) := by
    show _ = _
    unfold stepR
    simp only
    rw [if_pos ⟨HW0.out.trans hw, h2⟩, HW1.out]
  rw [HS.out]
  clear HS HW0 HW1 hw h2
  have q0 := hx.bx.cell 0 rfl
  have q6 := hx.bx.cell 6 rfl
  have qf := fun i => hx.bx.free i
  have ql := hx.bx.lt
  have hn := (hx.put 0 (.string ws[1])).put 6 (.func (.func 138) #[.pointer (some ⟨b, 0, none⟩)] #[])
  go_enter Tryz.func94, Tryz.ntmps94
  go_wp2_with fail
  go_ret
  exact ⟨rfl, ⟨A1, n1, c1, A4, n4, c4, hn⟩⟩
theorem rdNothing (b nw n c : Nat) (W : World) : Calls Tryz.prog 241 #[.pointer (some ⟨b, 0, none⟩), .slice (some ⟨nw, 0, none⟩) n c] W fun e w' => e = .returned (.int .i64 2) ∧ W = w' := by
  go_enter Tryz.func241, Tryz.ntmps241
  go_wp2_with fail
  go_ret
  exact ⟨rfl, rfl⟩
set_option maxRecDepth 100000 in
set_option maxHeartbeats 4000000 in
theorem rdStates {w W : World} {b : Nat} {r : Rd} (ws : List ByteArray) (nw : Nat) (h : InR w b r W) (hst : r.stage = 1) (h0 : 0 < ws.length) (hl : ws.length ≤ 100000) (hsl : Sl Lay.str W (some ⟨nw, 0, none⟩) ws) :
    Calls Tryz.prog 138 #[.pointer (some ⟨b, 0, none⟩), .slice (some ⟨nw, 0, none⟩) ws.length ws.length] W fun e W' => e = .returned (.int .i64 (stepR r ws).2) ∧ InR w b (stepR r ws).1 W' := by
  obtain ⟨cl, sts, st, er, mvs, sg⟩ := r
  simp only at hst
  subst hst
  obtain ⟨A1, n1, c1, A4, n4, c4, hx⟩ := h
  simp only at hx
  obtain ⟨bN, oN, eN, hbN, d0⟩ := hsl.str_at h0
  injection eN with eN
  injection eN with z1 z2
  subst z1 z2
  have d0' : W.cell? ⟨nw, 0, none⟩ = some (.string ws[0]) := d0
  clear d0
  have HW0 : Hid (toL (ws.headD ⟨#[]⟩) = toL ws[0]) := by
    show _ = _
    cases ws with
    | nil => simp at h0
    | cons a t => rfl
  by_cases hw : toL ws[0] = [115, 116, 97, 116, 101, 115]
  case neg =>
    have HS : Hid (stepR ⟨cl, sts, st, er, mvs, 1⟩ ws = (⟨cl, sts, st, er, mvs, 1⟩, 2)) := by
      show _ = _
      unfold stepR
      simp only
      rw [if_neg (fun e => hw (by rw [← HW0.out]; exact e.1))]
    rw [HS.out]
    clear HS
    have t1 := neB hw
    have t2 : (ws[0].toList != [115, 116, 97, 116, 101, 115]) = true := by rw [bne, t1]; rfl
    clear hw
    go_enter Tryz.func138, Tryz.ntmps138
    go_wp2_with fail
    go_ret
    exact ⟨rfl, ⟨A1, n1, c1, A4, n4, c4, hx⟩⟩
  have t1 := eqB hw
  have t2 : (ws[0].toList != [115, 116, 97, 116, 101, 115]) = false := by rw [bne, t1]; rfl
  by_cases h2 : 2 ≤ ws.length
  case neg =>
    have HS : Hid (stepR ⟨cl, sts, st, er, mvs, 1⟩ ws = (⟨cl, sts, st, er, mvs, 1⟩, 2)) := by
      show _ = _
      unfold stepR
      simp only
      rw [if_neg (fun e => h2 e.2)]
    rw [HS.out]
    clear HS
    clear hw
    go_enter Tryz.func138, Tryz.ntmps138
    go_wp2_with fail
    go_ret
    exact ⟨rfl, ⟨A1, n1, c1, A4, n4, c4, hx⟩⟩
  have HS : Hid (stepR ⟨cl, sts, st, er, mvs, 1⟩ ws = (⟨cl, ws.tail, st, er, mvs, 2⟩, 0)) := by
    show _ = _
    unfold stepR
    simp only
    rw [if_pos ⟨HW0.out.trans hw, h2⟩]
  rw [HS.out]
  clear HS HW0 hw
  obtain ⟨a0, fs, rfl⟩ : ∃ a0 fs, ws = a0 :: fs := by
    cases ws with
    | nil => simp at h0
    | cons a t => exact ⟨a, t, rfl⟩
  have hfl : fs.length ≤ 100000 := by simp at hl; omega
  have hf1 : 1 ≤ fs.length := by simp at h2; omega
  have hf2 : fs ≠ [] := fun e => by rw [e] at hf1; simp at hf1
  have hsf : Sl Lay.str W (some ⟨nw, 1, none⟩) fs := hsl.dropS 1
  have HCL : Hid (Calls Tryz.prog 107 #[.slice (some ⟨nw, 1, none⟩) fs.length fs.length] W fun e w' => (∃ v, e = .returned v ∧ Own cellsStr 1 W.heap.size 9 w' v fs) ∧ Below W.heap.size W w') := cloneStrs_any (some ⟨nw, 1, none⟩) fs.length fs W (by omega) hsf
  simp only [List.length_cons, List.getElem_cons_zero, List.tail_cons] at d0' t1 t2 h2 ⊢
  go_enter Tryz.func138, Tryz.ntmps138
  go_wp2_with fail
  refine HCL.out.mono ?_
  rintro e w2 ⟨⟨v2, rfl, ho2⟩, hb2⟩
  have hz := hx.mono hb2
  obtain ⟨A', n', c', rfl⟩ := ho2.isSl
  have hzz : InX w b A' n' c' A4 n4 c4 [.string cl, .slice A1 n1 c1, .int .i64 st, .int .i64 er, .slice A4 n4 c4, .bool (decide ((1 : Nat) = 5)), .func (.func (stFn 1)) #[.pointer (some ⟨b, 0, none⟩)] #[]] fs mvs w2 := ⟨hz.bx, ho2.base_le' hx.bx.lt, hz.om, hz.br, hz.bel, hz.lt, hfl, hz.ml⟩
  have q1 := hzz.bx.cell 1 rfl
  have q6 := hzz.bx.cell 6 rfl
  have qf := fun i => hzz.bx.free i
  have ql := hzz.bx.lt
  have hn := (hzz.put 1 (.slice A' n' c')).put 6 (.func (.func 183) #[.pointer (some ⟨b, 0, none⟩)] #[])
  go_wp2_with fail
  go_ret
  exact ⟨rfl, ⟨A', n', c', A4, n4, c4, hn⟩⟩
theorem InX.pushed {w W W' : World} {b : Nat} {A1 A4 A' : Option Addr} {n1 c1 n4 c4 n' c' : Nat} {cs : List Value} {sts : List ByteArray} {mvs mvs' : List Mov} (h : InX w b A1 n1 c1 A4 n4 c4 cs sts mvs W) (ho : Own cellsMov 3 (b + 1) 103 W' (.slice A' n' c') mvs') (hb : Below (b + 1) W W') (hg : W.grownBy W' (Value.slice A4 n4 c4).ownBlock) (hl : mvs'.length ≤ 100000) : InX w b A1 n1 c1 A' n' c' cs sts mvs' W' := by
  have hlt := h.lt
  exact ⟨h.bx.below (by omega) hb, h.os.kept_other h.om (by decide) hg, ho, h.br.below (by omega) hb, h.bel.trans (hb.mono (by omega)), hlt, h.sl, hl⟩
end Go.Proofs.YthabojhnliomnaaGreatDoor

namespace Go.Proofs.YthabojhnliomnaaGreatDoor
open Go.RowKit Go.Deep
set_option linter.unusedVariables false

theorem step_appendRun {P : Program} {ops : Array Oper} {o : Oper} {a : Act} {w w' : World} {K : Act → World → Prop} {Q : Exit → Act → World → Prop} {E : Prop}
    (hg : o.guard = none) (s x : Operand) (t : TypeId) (hop : o.op = Op.call { callee := Callee.builtin Builtin.append, args := #[s, x], argTypes := #[t, t] })
    {v u v' : Value} (hs : a.eval s = v) (hx : a.eval x = u) (hrun : (Builtin.append_ #[t, t] o.type #[v, u]).run P w = .ok v' w') (hK : K (a.put o.dst v') w') :
    if Region.wanted o (yielded ops a.tmps) = true then Oper.wp P o a w K Q else E := by
  have hw : Region.wanted o (yielded ops a.tmps) = true := by simp [Region.wanted, hg]
  rw [if_pos hw]
  unfold Oper.wp
  simp [execOp, hop, resolve, invoke, builtin, hs, hx, hrun, Result.andThen]
  exact hK
set_option maxRecDepth 100000 in
set_option maxHeartbeats 4000000 in
theorem rdMove {w W : World} {b : Nat} {r : Rd} (ws : List ByteArray) (nw : Nat) (h : InR w b r W) (hst : r.stage = 4) (h0 : 0 < ws.length) (hl : ws.length ≤ 100000) (hmx : r.moves.length < 100000) (hsl : Sl Lay.str W (some ⟨nw, 0, none⟩) ws) :
    Calls Tryz.prog 232 #[.pointer (some ⟨b, 0, none⟩), .slice (some ⟨nw, 0, none⟩) ws.length ws.length] W fun e W' => e = .returned (.int .i64 (stepR r ws).2) ∧ InR w b (stepR r ws).1 W' := by
  obtain ⟨cl, sts, st, er, mvs, sg⟩ := r
  simp only at hst
  subst hst
  obtain ⟨A1, n1, c1, A4, n4, c4, hx⟩ := h
  simp only at hx
  obtain ⟨bN, oN, eN, hbN, d0⟩ := hsl.str_at h0
  injection eN with eN
  injection eN with z1 z2
  subst z1 z2
  have d0' : W.cell? ⟨nw, 0, none⟩ = some (.string ws[0]) := d0
  clear d0
  have HW0 : Hid (toL (ws.headD ⟨#[]⟩) = toL ws[0]) := by
    show _ = _
    cases ws with
    | nil => simp at h0
    | cons a t => rfl
  simp only at hmx
  by_cases he : toL ws[0] = [101, 110, 100]
  · have t1 := eqB he
    have nm : ¬ toL ws[0] = [109, 111, 118, 101] := by rw [he]; decide
    have u1 := neB nm
    have u2 : (ws[0].toList != [109, 111, 118, 101]) = true := by rw [bne, u1]; rfl
    by_cases h1 : ws.length = 1
    · have t3 : ((ws.length : Int) == 1) = true := by rw [h1]; rfl
      have HS : Hid (stepR ⟨cl, sts, st, er, mvs, 4⟩ ws = (⟨cl, sts, st, er, mvs, 5⟩, 0)) := by
        show _ = _
        unfold stepR
        simp only
        rw [if_pos ⟨HW0.out.trans he, h1⟩]
      rw [HS.out]
      clear HS HW0 he h1 nm
      have q5 := hx.bx.cell 5 rfl
      have q6 := hx.bx.cell 6 rfl
      have qf := fun i => hx.bx.free i
      have ql := hx.bx.lt
      have hn := (hx.put 5 (.bool true)).put 6 (.func (.func 241) #[.pointer (some ⟨b, 0, none⟩)] #[])
      go_enter Tryz.func232, Tryz.ntmps232
      go_wp2_with fail
      go_ret
      exact ⟨rfl, ⟨A1, n1, c1, A4, n4, c4, hn⟩⟩
    · have t3 : ((ws.length : Int) == 1) = false := beq_eq_false_iff_ne.2 (by omega)
      have HS : Hid (stepR ⟨cl, sts, st, er, mvs, 4⟩ ws = (⟨cl, sts, st, er, mvs, 4⟩, 2)) := by
        show _ = _
        unfold stepR
        simp only
        rw [if_neg (fun e => h1 e.2), if_neg (fun e => nm (by rw [← HW0.out]; exact e.1))]
      rw [HS.out]
      clear HS
      clear he h1 nm
      go_enter Tryz.func232, Tryz.ntmps232
      go_wp2_with fail
      go_ret
      exact ⟨rfl, ⟨A1, n1, c1, A4, n4, c4, hx⟩⟩
  have t1 := neB he
  by_cases hm : toL ws[0] = [109, 111, 118, 101]
  case neg =>
    have u1 := neB hm
    have u2 : (ws[0].toList != [109, 111, 118, 101]) = true := by rw [bne, u1]; rfl
    have HS : Hid (stepR ⟨cl, sts, st, er, mvs, 4⟩ ws = (⟨cl, sts, st, er, mvs, 4⟩, 2)) := by
      show _ = _
      unfold stepR
      simp only
      rw [if_neg (fun e => he (by rw [← HW0.out]; exact e.1)), if_neg (fun e => hm (by rw [← HW0.out]; exact e.1))]
    rw [HS.out]
    clear HS
    clear he hm
    go_enter Tryz.func232, Tryz.ntmps232
    go_wp2_with fail
    go_ret
    exact ⟨rfl, ⟨A1, n1, c1, A4, n4, c4, hx⟩⟩
  have u1 := eqB hm
  have u2 : (ws[0].toList != [109, 111, 118, 101]) = false := by rw [bne, u1]; rfl
  by_cases h4 : ws.length = 4
  case neg =>
    have t3 := ne4 h4
    have HS : Hid (stepR ⟨cl, sts, st, er, mvs, 4⟩ ws = (⟨cl, sts, st, er, mvs, 4⟩, 2)) := by
      show _ = _
      unfold stepR
      simp only
      rw [if_neg (fun e => he (by rw [← HW0.out]; exact e.1)), if_neg (fun e => h4 e.2)]
    rw [HS.out]
    clear HS
    clear he hm h4
    go_enter Tryz.func232, Tryz.ntmps232
    go_wp2_with fail
    go_ret
    exact ⟨rfl, ⟨A1, n1, c1, A4, n4, c4, hx⟩⟩
  have t3 : ((ws.length : Int) != 4) = false := by rw [h4]; rfl
  have h1l : 1 < ws.length := by omega
  have h2l : 2 < ws.length := by omega
  have h3l : 3 < ws.length := by omega
  obtain ⟨bN, oN, eN, hbN1, d1⟩ := hsl.str_at h1l
  injection eN with eN
  injection eN with z1 z2
  subst z1 z2
  obtain ⟨bN, oN, eN, hbN2, d2⟩ := hsl.str_at h2l
  injection eN with eN
  injection eN with z1 z2
  subst z1 z2
  obtain ⟨bN, oN, eN, hbN3, d3⟩ := hsl.str_at h3l
  injection eN with eN
  injection eN with z1 z2
  subst z1 z2
  have d1' : W.cell? ⟨nw, 1, none⟩ = some (.string ws[1]) := d1
  have d2' : W.cell? ⟨nw, 2, none⟩ = some (.string ws[2]) := d2
  have d3' : W.cell? ⟨nw, 3, none⟩ = some (.string ws[3]) := d3
  clear d1 d2 d3
  obtain ⟨F, HF⟩ : ∃ F : ByteArray → Int, Hid (F = atI sts) := ⟨_, Lib.hid rfl⟩
  obtain ⟨A6, c6, hv6, hc6, hs6⟩ := StrsV.of_own hx.os
  injection hv6 with z1 z2 z3
  subst z1 z2 z3
  have HIX : Hid (∀ (s : ByteArray) (x : Later W), Calls Tryz.prog 125 #[.slice A1 sts.length c1, .string s] x.W fun e w' => e = .returned (.int .i64 (F s)) ∧ x.W = w') := fun s x => by
    rw [HF.out, ← idx_at]
    exact sIndex_any A1 c1 sts s x.W (by have := hx.sl; omega) (hs6.later x)
  have HW1 : Hid (ws.getD 1 ⟨#[]⟩ = ws[1] ∧ ws.getD 2 ⟨#[]⟩ = ws[2] ∧ ws.getD 3 ⟨#[]⟩ = ws[3]) := by refine ⟨?_, ?_, ?_⟩ <;> simp [List.getD, h1l, h2l, h3l]
  have HS : Hid (stepR ⟨cl, sts, st, er, mvs, 4⟩ ws = if (0 : Int) ≤ F ws[1] ∧ (0 : Int) ≤ F ws[3] then (⟨cl, sts, st, er, mvs ++ [⟨F ws[1], ws[2], F ws[3]⟩], 4⟩, 0) else (⟨cl, sts, st, er, mvs, 4⟩, 6)) := by
    show _ = _
    unfold stepR
    simp only
    rw [if_neg (fun e => he (by rw [← HW0.out]; exact e.1)), if_pos ⟨HW0.out.trans hm, h4⟩, HW1.out.1, HW1.out.2.1, HW1.out.2.2, HF.out]
  rw [HS.out]
  have hfb : -1 ≤ F ws[1] := by rw [HF.out]; exact atI_ge sts ws[1]
  have hfc : -1 ≤ F ws[3] := by rw [HF.out]; exact atI_ge sts ws[3]
  clear HS HW0 HW1 HF he hm h4
  generalize ws[1] = x1 at *
  generalize ws[2] = x2 at *
  generalize ws[3] = x3 at *
  have p1 := hx.bx.cell 1 rfl
  have pl := hx.bx.lt
  by_cases ha : 0 ≤ F x1 ∧ 0 ≤ F x3
  case neg =>
    rw [if_neg ha]
    go_enter Tryz.func232, Tryz.ntmps232
    go_wp2_with fail
    refine wp_region_later (by kernel_rfl) (by kernel_rfl) ?_
    repeat (go_big_quiet_step (first | (go_at_call 125; exact Calls.later_same (HIX.out _ _))))
    refine wpQuiet_nil ?_
    rintro _ ⟨z, rfl⟩
    have hz := hx.mono z.h
    by_cases ha1 : 0 ≤ F x1
    · have ha2 : ¬ 0 ≤ F x3 := fun h => ha ⟨ha1, h⟩
      go_wp2_with fail
      go_ret
      exact ⟨rfl, ⟨A1, sts.length, c1, A4, n4, c4, hz⟩⟩
    · go_wp2_with fail
      go_ret
      exact ⟨rfl, ⟨A1, sts.length, c1, A4, n4, c4, hz⟩⟩
  rw [if_pos ha]
  obtain ⟨ha1, ha2⟩ := ha
  go_enter Tryz.func232, Tryz.ntmps232
  go_wp2_with fail
  refine wp_region_later (by kernel_rfl) (by kernel_rfl) ?_
  repeat (go_big_quiet_step (first | (go_at_call 125; exact Calls.later_same (HIX.out _ _))))
  refine wpQuiet_nil ?_
  rintro _ ⟨z, rfl⟩
  have hz := hx.mono z.h
  have d2z : z.W.cell? ⟨nw, 2, none⟩ = some (.string x2) := keptC d2' hbN2 z.h
  have hnz := Nat.lt_of_lt_of_le hbN2 z.h.size
  generalize z.W = wz at *
  clear p1 pl d1' d2' d3' d0' hbN hbN1 hbN2 hbN3
  have p4 := hz.bx.cell 4 rfl
  have pl := hz.bx.lt
  go_upto_region 10 with fail
  have hzd := hz.mono (bw_drew (Below.refl _ _))
  have hza := hzd.mono (show Below wz.drew.heap.size wz.drew (wz.drew.alloc (.cells #[.int .i64 (F x1), .string x2, .int .i64 (F x3)] 103)) from bw_alloc (Below.refl _ _))
  have bn := Box.new wz.drew [.int .i64 (F x1), .string x2, .int .i64 (F x3)] 103
  have hzs : b + 1 ≤ wz.heap.size := pl
  obtain ⟨v7, w7, hrun, hown7, hb7, hg7, hz7⟩ := run_push movsTy cellsMov_ok 61 hza.om ⟨F x1, x2, F x3⟩ wz.heap.size 1 (fun j u hu => bn.cell j hu) (by unfold maxLen; omega) (by omega) (by simp; omega)
  obtain ⟨A7, n7, c7, rfl⟩ := hown7.isSl
  have h7 := hza.pushed hown7 hb7 hg7 (by rw [List.length_append]; simp; omega)
  have q4 := h7.bx.cell 4 rfl
  have qf := fun i => h7.bx.free i
  have ql := h7.bx.lt
  have h2i : (2 : Int) < (ws.length : Int) := by omega
  go_region_law (refine step_appendRun rfl (.tmp 62) (.tmp 69) 61 rfl (by simp [Act.eval]) (by simp [Act.eval]) hrun ?_)
  all_goals (go_wp2_with fail; go_ret; exact ⟨rfl, ⟨A1, sts.length, c1, A7, n7, c7, h7.put 4 (.slice A7 n7 c7)⟩⟩)
end Go.Proofs.YthabojhnliomnaaGreatDoor

namespace Go.Proofs.YthabojhnliomnaaGreatDoor
open Go.RowKit
set_option linter.unusedVariables false

theorem rdAny {w W : World} {b : Nat} {r : Rd} (ws : List ByteArray) (nw : Nat) (h : InR w b r W) (h0 : 0 < ws.length) (hl : ws.length ≤ 100000) (hm : r.moves.length < 100000) (hsl : Sl Lay.str W (some ⟨nw, 0, none⟩) ws) :
    Calls Tryz.prog (stFn r.stage) #[.pointer (some ⟨b, 0, none⟩), .slice (some ⟨nw, 0, none⟩) ws.length ws.length] W fun e W' => e = .returned (.int .i64 (stepR r ws).2) ∧ InR w b (stepR r ws).1 W' := by
  rcases (show r.stage = 0 ∨ r.stage = 1 ∨ r.stage = 2 ∨ r.stage = 3 ∨ r.stage = 4 ∨ 5 ≤ r.stage by omega) with hs | hs | hs | hs | hs | hs
  · rw [hs]; exact rdClass9 ws nw h hs h0 hl hsl
  · rw [hs]; exact rdStates ws nw h hs h0 hl hsl
  · rw [hs]; exact rdStart ws nw h hs h0 hl hsl
  · rw [hs]; exact rdFail ws nw h hs h0 hl hsl
  · rw [hs]; exact rdMove ws nw h hs h0 hl hm hsl
  · have h1 : stFn r.stage = 241 := by
      obtain ⟨k, hk⟩ : ∃ k, r.stage = k + 5 := ⟨r.stage - 5, by omega⟩
      rw [hk]; rfl
    have h2 : stepR r ws = (r, 2) := by
      obtain ⟨k, hk⟩ : ∃ k, r.stage = k + 5 := ⟨r.stage - 5, by omega⟩
      unfold stepR
      rw [hk]
      rfl
    rw [h1, h2]
    refine (rdNothing b nw ws.length ws.length W).mono ?_
    rintro e w' ⟨rfl, rfl⟩
    exact ⟨rfl, h⟩
theorem stepR_moves (r : Rd) (ws : List ByteArray) : (stepR r ws).1.moves.length ≤ r.moves.length + 1 := by
  unfold stepR
  repeat' split
  all_goals simp
def zPtc : Ptc := ⟨⟨#[]⟩, [], 0, 0, []⟩
def Rd.ptc (r : Rd) : Ptc := ⟨r.cls, r.states, r.start, r.err, r.moves⟩
def rd0 : Rd := ⟨⟨#[]⟩, [], 0, 0, [], 0⟩
/-- From line i on: the protocol, or an error and its line. -/
def ptcGo (i : Nat) (r : Rd) : List (List UInt8) → Ptc × Int × Int
  | [] => (zPtc, i, 21)
  | [x] => if ¬ r.stage = 5 then (zPtc, i, 21) else if x ≠ [] then (zPtc, i, 2) else if ptcE r.ptc ≠ 0 then (zPtc, 0, ptcE r.ptc) else (r.ptc, 0, 0)
  | x :: y :: t => if hasE (wds 32 (bsOf x)) then (zPtc, i, 2) else if (stepR r (wds 32 (bsOf x))).2 ≠ 0 then (zPtc, i, (stepR r (wds 32 (bsOf x))).2) else ptcGo (i + 1) (stepR r (wds 32 (bsOf x))).1 (y :: t)
def ptcP (ls : List (List UInt8)) : Ptc × Int × Int := ptcGo 1 rd0 ls
def RetPtc (base : Nat) (r : Ptc × Int × Int) (w' : World) (e : Ending) : Prop := ∃ A1 n1 c1 A4 n4 c4, e = .returned (.tuple #[.agg #[.string r.1.cls, .slice A1 n1 c1, .int .i64 r.1.start, .int .i64 r.1.err, .slice A4 n4 c4], .int .i64 r.2.1, .int .i64 r.2.2]) ∧ Own cellsStr 1 base 9 w' (.slice A1 n1 c1) r.1.states ∧ Own cellsMov 3 base 103 w' (.slice A4 n4 c4) r.1.moves
theorem retPtc_bad {base : Nat} {w' : World} {i e : Int} : RetPtc base (zPtc, i, e) w' (.returned (.tuple #[.agg #[.string ⟨#[]⟩, .slice none 0 0, .int .i64 0, .int .i64 0, .slice none 0 0], .int .i64 i, .int .i64 e])) := ⟨none, 0, 0, none, 0, 0, rfl, Own.nil, Own.nil⟩
theorem Box.store5 {w : World} {b : Nat} {a0 a1 a2 a3 a4 : Value} {t : TypeId} (h : Box w b [a0, a1, a2, a3, a4] t) (v0 v1 v2 v3 v4 : Value) :
    Box (((((w.setCell ⟨b, 0, none⟩ v0).setCell ⟨b, 1, none⟩ v1).setCell ⟨b, 2, none⟩ v2).setCell ⟨b, 3, none⟩ v3).setCell ⟨b, 4, none⟩ v4) b [v0, v1, v2, v3, v4] t ∧ w.grownBy (((((w.setCell ⟨b, 0, none⟩ v0).setCell ⟨b, 1, none⟩ v1).setCell ⟨b, 2, none⟩ v2).setCell ⟨b, 3, none⟩ v3).setCell ⟨b, 4, none⟩ v4) (some b) :=
  ⟨((((h.set 0 v0).set 1 v1).set 2 v2).set 3 v3).set 4 v4, grown_trans (grown_trans (grown_set2 _ _ _ _ _ _) (grown_set2 _ _ _ _ _ _)) (grown_set _ _ _ _)⟩
theorem InR.mono {w W W' : World} {b : Nat} {r : Rd} (h : InR w b r W) (hb : Below W.heap.size W W') : InR w b r W' := by
  obtain ⟨A1, n1, c1, A4, n4, c4, hx⟩ := h
  exact ⟨A1, n1, c1, A4, n4, c4, hx.mono hb⟩
theorem InR.bel {w W : World} {b : Nat} {r : Rd} (h : InR w b r W) : Below w.heap.size w W := by
  obtain ⟨A1, n1, c1, A4, n4, c4, hx⟩ := h
  exact hx.bel
theorem stFn_cases (k : Nat) : stFn k = 94 ∨ stFn k = 138 ∨ stFn k = 183 ∨ stFn k = 213 ∨ stFn k = 232 ∨ stFn k = 241 := by
  rcases (show k = 0 ∨ k = 1 ∨ k = 2 ∨ k = 3 ∨ k = 4 ∨ 5 ≤ k by omega) with rfl | rfl | rfl | rfl | rfl | h
  · exact Or.inl rfl
  · exact Or.inr (Or.inl rfl)
  · exact Or.inr (Or.inr (Or.inl rfl))
  · exact Or.inr (Or.inr (Or.inr (Or.inl rfl)))
  · exact Or.inr (Or.inr (Or.inr (Or.inr (Or.inl rfl))))
  · obtain ⟨j, rfl⟩ : ∃ j, k = j + 5 := ⟨k - 5, by omega⟩
    exact Or.inr (Or.inr (Or.inr (Or.inr (Or.inr rfl))))
structure RdOk (r : Rd) : Prop where
  c : r.cls.size ≤ 65536
  s : ∀ x ∈ r.states, x.size ≤ 65536
  m : ∀ x ∈ r.moves, x.mth.size ≤ 65536
theorem getD_ok {ws : List ByteArray} (h : ∀ x ∈ ws, x.size ≤ 65536) (i : Nat) : (ws.getD i ⟨#[]⟩).size ≤ 65536 := by
  unfold List.getD
  cases hq : ws[i]? with
  | none => exact Nat.zero_le _
  | some x => exact h x (List.mem_of_getElem? hq)
theorem stepR_ok {r : Rd} {ws : List ByteArray} (h : RdOk r) (hw : ∀ x ∈ ws, x.size ≤ 65536) : RdOk (stepR r ws).1 := by
  unfold stepR
  repeat' split
  all_goals first
    | exact h
    | exact ⟨getD_ok hw 1, h.s, h.m⟩
    | exact ⟨h.c, fun x hx => hw x (List.mem_of_mem_tail hx), h.m⟩
    | exact ⟨h.c, h.s, h.m⟩
    | exact ⟨h.c, h.s, fun x hx => by
        rcases List.mem_append.1 hx with hx | hx
        · exact h.m x hx
        · simp at hx; subst hx; exact getD_ok hw 2⟩
set_option maxRecDepth 100000 in
set_option maxHeartbeats 8000000 in
theorem protParse_any (s : ByteArray) (ls : List (List UInt8)) (w : World) (hg : Glob w) (hs : s.size ≤ 65536) (hls : Hid (spl 10 (toL s) = ls)) :
    Calls Tryz.prog 47 #[.string s] w fun e w' => RetPtc w.heap.size (ptcP ls) w' e ∧ Below w.heap.size w w' := by
  obtain ⟨R, HR⟩ : ∃ R, Hid (R = ptcP ls) := ⟨_, Lib.hid rfl⟩
  rw [← HR.out]
  have hll : ls.length ≤ 65537 := by rw [← hls.out]; have := spl_len 10 (toL s); rw [toL_len] at this; omega
  have hl0 : 0 < ls.length := by rw [← hls.out]; exact List.length_pos_iff.2 (spl_ne _ _)
  have HST : Hid (R = ptcGo (0 + 1) rd0 (ls.drop 0)) := by show _ = _; rw [HR.out]; rfl
  go_enter Tryz.func47, Tryz.ntmps47
  go_upto_region 5 with fail
  generalize hW : World.alloc (World.alloc w _) _ = w1
  have hin0 : InR w (w.heap.size + 1) rd0 w1 := by
    rw [← hW]
    exact ⟨none, 0, 0, none, 0, 0, (by repeat (first | (refine Box.at ?_; (simp; done)) | apply Box.drew | apply Box.alloc | assumption)), Own.nil, Own.nil, (by repeat (first | (refine Box.at ?_; (simp; done)) | apply Box.drew | apply Box.alloc | assumption)), (by repeat (first | assumption | exact Below.refl _ _ | apply bw_alloc | apply bw_drew | apply bw_drewN | apply bw_later | apply bw_step)), by omega, by decide, by decide⟩
  clear hW HR
  go_wp2_with fail
  go_loopw [0, 6] (fun v0 v6 wr => ∃ (k : Nat) (t : ByteArray) (r : Rd), v0 = .string t ∧ v6 = .int .i64 (k + 1 : Nat) ∧ k < ls.length ∧ t.size ≤ s.size ∧ r.moves.length ≤ k ∧ InR w (w.heap.size + 1) r wr ∧ Hid (RdOk r ∧ spl 10 (toL t) = ls.drop k ∧ R = ptcGo (k + 1) r (ls.drop k))) (fun v0 v6 _ => ls.length + 1 - (intOf v6).toNat)
  case atStart => exact ⟨0, s, rd0, rfl, rfl, hl0, Nat.le_refl _, Nat.zero_le _, hin0, ⟨Nat.zero_le _, by simp [rd0], by simp [rd0]⟩, hls.out, HST.out⟩
  case round =>
    clear hin0 HST
    obtain ⟨k, t, r, rfl, rfl, hk, ht, hmv, hin, HI⟩ := hrel
    have hbw := hin.bel
    by_cases hlast : k + 1 < ls.length
    · have hd : ls.drop k = ls[k] :: ls[k + 1] :: ls.drop (k + 2) := by rw [List.drop_eq_getElem_cons hk, List.drop_eq_getElem_cons hlast]
      obtain ⟨T0, h1, h2, h3⟩ := cut_first (HI.out.2.1.trans hd)
      have hts : (bsOf T0).size ≤ t.size := by
        rw [bsOf_size, ← toL_len, h3]
        simp
        omega
      have hxs : (bsOf ls[k]).size ≤ t.size := by
        rw [bsOf_size, ← toL_len, h3]
        simp
      have HC : Hid (∀ W, Below w.heap.size w W → Calls Tryz.prog 42 #[.string t, .string ⟨#[10]⟩] W fun e w' => e = .returned (.tuple #[.string (bsOf ls[k]), .string (bsOf T0), .bool true]) ∧ Below W.heap.size W w') := fun W hW => cut_yes W (hg.mono hW) (by omega) h1
      have HN : Hid (spl 10 (toL (bsOf T0)) = ls.drop (k + 1)) := by show spl 10 T0 = _; rw [h2, List.drop_eq_getElem_cons hlast]
      obtain ⟨ws, HWs⟩ : ∃ ws : List ByteArray, Hid (ws = wds 32 (bsOf ls[k])) := ⟨_, Lib.hid rfl⟩
      have hwp := wds_pos 32 (bsOf ls[k])
      have hwl := wds_len 32 (bsOf ls[k])
      have HWZ : Hid (∀ x ∈ ws, x.size ≤ 65536) := fun x hx => by rw [HWs.out] at hx; have := wds_size hx; omega
      have HSP := Lib.hid (fun W h => split_any 32 (bsOf ls[k]) W (hg.mono h) (by omega))
      rw [← HWs.out] at HSP hwp hwl
      have hwl2 : ws.length ≤ 65537 := by omega
      have HGO : Hid (R = if hasE ws then (zPtc, ((k + 1 : Nat) : Int), 2) else if (stepR r ws).2 ≠ 0 then (zPtc, ((k + 1 : Nat) : Int), (stepR r ws).2) else ptcGo (k + 1 + 1) (stepR r ws).1 (ls.drop (k + 1))) := by
        show _ = _
        rw [HI.out.2.2, hd, ptcGo, HWs.out, List.drop_eq_getElem_cons hlast]
      have HOKR := Lib.hid HI.out.1
      clear h1 h2 h3 hd HI HWs hwl
      generalize bsOf T0 = T at *
      generalize bsOf ls[k] = X at *
      go_wp2_with fail
      refine (HC.out _ hbw).mono ?_
      rintro e w2 ⟨rfl, hb2⟩
      have hin2 := hin.mono hb2
      have hbw2 := hin2.bel
      clear hin
      go_wp2_with fail
      refine (HSP.out _ hbw2).mono ?_
      rintro e w3 hsp
      obtain ⟨rfl, hbox, hsl, hbel⟩ := hsp
      have hin := hin2.mono hbel
      clear hin2
      generalize w2.heap.size = nw at *
      go_wp2_with fail
      refine (containsEmpty ws (by omega) hsl).mono ?_
      rintro e w4 ⟨rfl, rfl⟩
      cases hE : hasE ws with
      | true =>
        have HB : Hid (R = (zPtc, ((k + 1 : Nat) : Int), 2)) := by show _ = _; rw [HGO.out, if_pos hE]
        obtain ⟨A1, n1, c1, A4, n4, c4, hx⟩ := hin
        have q0 := hx.br.cell 0 rfl
        have q1 := hx.br.cell 1 rfl
        have q2 := hx.br.cell 2 rfl
        have q3 := hx.br.cell 3 rfl
        have q4 := hx.br.cell 4 rfl
        have qf := fun i => hx.br.free i
        have ql := hx.br.lt
        have hbel := hx.bel
        obtain ⟨hbz, hgz⟩ := hx.br.store5 (.string ⟨#[]⟩) (.slice none 0 0) (.int .i64 0) (.int .i64 0) (.slice none 0 0)
        have hbwz := hbel.grown hgz hbel.size (fun k hk => by injection hk with hk; omega)
        have y0 := hbz.cell 0 rfl
        have y1 := hbz.cell 1 rfl
        have y2 := hbz.cell 2 rfl
        have y3 := hbz.cell 3 rfl
        have y4 := hbz.cell 4 rfl
        go_wp2_with fail
        refine bodyPost_ret (v := .tuple #[.agg #[.string ⟨#[]⟩, .slice none 0 0, .int .i64 0, .int .i64 0, .slice none 0 0], .int .i64 ((k + 1 : Nat) : Int), .int .i64 2]) (by simp [results, Tryz.results47, go_sem, y0, y1, y2, y3, y4]) rfl ⟨?_, hbwz⟩
        rw [HB.out]
        exact retPtc_bad
      | false =>
        have HGO2 : Hid (R = if (stepR r ws).2 ≠ 0 then (zPtc, ((k + 1 : Nat) : Int), (stepR r ws).2) else ptcGo (k + 1 + 1) (stepR r ws).1 (ls.drop (k + 1))) := by show _ = _; rw [HGO.out, if_neg (by rw [hE]; simp)]
        have HOK2 := Lib.hid (stepR_ok HOKR.out HWZ.out)
        have hm2 := stepR_moves r ws
        have HRD := Lib.hid (rdAny ws nw hin hwp (by omega) (by omega) hsl)
        clear HGO hE HOKR
        obtain ⟨A1, n1, c1, A4, n4, c4, hx⟩ := hin
        have q6 := hx.bx.cell 6 rfl
        have ql := hx.bx.lt
        generalize (stepR r ws).2 = er at *
        generalize (stepR r ws).1 = r2 at *
        have hfn := stFn_cases r.stage
        generalize stFn r.stage = fn at *
        rcases hfn with e | e | e | e | e | e
        all_goals
          subst e
          go_wp2_with fail
          refine HRD.out.mono ?_
          rintro e w5 ⟨rfl, hin⟩
          clear hx q6 ql
          by_cases her : er = 0
          · subst her
            have HI2 : Hid (RdOk r2 ∧ spl 10 (toL T) = ls.drop (k + 1) ∧ R = ptcGo (k + 1 + 1) r2 (ls.drop (k + 1))) := ⟨HOK2.out, HN.out, by rw [HGO2.out, if_neg (by simp)]⟩
            go_wp2_with fail
            go_roundw
            case rel => exact ⟨k + 1, T, r2, rfl, by go_num, hlast, by omega, by omega, hin, HI2⟩
            case measure => simp [intOf]; omega
          · have HB : Hid (R = (zPtc, ((k + 1 : Nat) : Int), er)) := by show _ = _; rw [HGO2.out, if_pos her]
            have ter : (er != 0) = true := by simpa using her
            clear her
            obtain ⟨A1, n1, c1, A4, n4, c4, hx⟩ := hin
            have q0 := hx.br.cell 0 rfl
            have q1 := hx.br.cell 1 rfl
            have q2 := hx.br.cell 2 rfl
            have q3 := hx.br.cell 3 rfl
            have q4 := hx.br.cell 4 rfl
            have qf := fun i => hx.br.free i
            have ql := hx.br.lt
            have hbel := hx.bel
            obtain ⟨hbz, hgz⟩ := hx.br.store5 (.string ⟨#[]⟩) (.slice none 0 0) (.int .i64 0) (.int .i64 0) (.slice none 0 0)
            have hbwz := hbel.grown hgz hbel.size (fun k hk => by injection hk with hk; omega)
            have y0 := hbz.cell 0 rfl
            have y1 := hbz.cell 1 rfl
            have y2 := hbz.cell 2 rfl
            have y3 := hbz.cell 3 rfl
            have y4 := hbz.cell 4 rfl
            go_wp2_with fail
            refine bodyPost_ret (v := .tuple #[.agg #[.string ⟨#[]⟩, .slice none 0 0, .int .i64 0, .int .i64 0, .slice none 0 0], .int .i64 ((k + 1 : Nat) : Int), .int .i64 er]) (by simp [results, Tryz.results47, go_sem, y0, y1, y2, y3, y4]) rfl ⟨?_, hbwz⟩
            rw [HB.out]
            exact retPtc_bad

    · have hd : ls.drop k = [ls[k]] := by rw [List.drop_eq_getElem_cons hk, List.drop_eq_nil_of_le (by omega)]
      have HC : Hid (∀ W, Below w.heap.size w W → Calls Tryz.prog 42 #[.string t, .string ⟨#[10]⟩] W fun e w' => e = .returned (.tuple #[.string t, .string ⟨#[]⟩, .bool false]) ∧ Below W.heap.size W w') := fun W hW => cut_no W (hg.mono hW) (by omega) (HI.out.2.1.trans hd)
      have HX : Hid (ls[k] = toL t) := (cut_last (HI.out.2.1.trans hd)).1
      have HGO : Hid (R = if ¬ r.stage = 5 then (zPtc, ((k + 1 : Nat) : Int), 21) else if toL t ≠ [] then (zPtc, ((k + 1 : Nat) : Int), 2) else if ptcE r.ptc ≠ 0 then (zPtc, 0, ptcE r.ptc) else (r.ptc, 0, 0)) := by
        show _ = _
        rw [HI.out.2.2, hd, HX.out]
        rfl
      have HOKR := Lib.hid HI.out.1
      clear hd HI HX
      go_wp2_with fail
      refine (HC.out _ hbw).mono ?_
      rintro e w2 ⟨rfl, hb2⟩
      replace hin := hin.mono hb2
      clear hb2 hbw
      by_cases hst : r.stage = 5
      case neg =>
        have HB : Hid (R = (zPtc, ((k + 1 : Nat) : Int), 21)) := by show _ = _; rw [HGO.out, if_pos hst]
        have hin' := hin
        obtain ⟨A1', n1', c1', A4', n4', c4', hx'⟩ := hin'
        have r5 := hx'.bx.cell 5 rfl
        rw [decide_eq_false hst] at r5
        have rl := hx'.bx.lt
        clear hst
        obtain ⟨A1, n1, c1, A4, n4, c4, hx⟩ := hin
        have q0 := hx.br.cell 0 rfl
        have q1 := hx.br.cell 1 rfl
        have q2 := hx.br.cell 2 rfl
        have q3 := hx.br.cell 3 rfl
        have q4 := hx.br.cell 4 rfl
        have qf := fun i => hx.br.free i
        have ql := hx.br.lt
        have hbel := hx.bel
        obtain ⟨hbz, hgz⟩ := hx.br.store5 (.string ⟨#[]⟩) (.slice none 0 0) (.int .i64 0) (.int .i64 0) (.slice none 0 0)
        have hbwz := hbel.grown hgz hbel.size (fun k hk => by injection hk with hk; omega)
        have y0 := hbz.cell 0 rfl
        have y1 := hbz.cell 1 rfl
        have y2 := hbz.cell 2 rfl
        have y3 := hbz.cell 3 rfl
        have y4 := hbz.cell 4 rfl
        go_wp2_with fail
        refine bodyPost_ret (v := .tuple #[.agg #[.string ⟨#[]⟩, .slice none 0 0, .int .i64 0, .int .i64 0, .slice none 0 0], .int .i64 ((k + 1 : Nat) : Int), .int .i64 21]) (by simp [results, Tryz.results47, go_sem, y0, y1, y2, y3, y4]) rfl ⟨?_, hbwz⟩
        rw [HB.out]
        exact retPtc_bad
      have HGO2 : Hid (R = if toL t ≠ [] then (zPtc, ((k + 1 : Nat) : Int), 2) else if ptcE r.ptc ≠ 0 then (zPtc, 0, ptcE r.ptc) else (r.ptc, 0, 0)) := by show _ = _; rw [HGO.out, if_neg (fun h => h hst)]
      clear HGO
      have hin' := hin
      obtain ⟨A1', n1', c1', A4', n4', c4', hx'⟩ := hin'
      have r5 := hx'.bx.cell 5 rfl
      rw [decide_eq_true hst] at r5
      have rl := hx'.bx.lt
      cases hte : t.toList.isEmpty with
      | false =>
        have hne : t.toList ≠ [] := fun h => by rw [h] at hte; simp at hte
        have hne2 : (t.toList != ([] : List UInt8)) = true := by simpa using hne
        have HB : Hid (R = (zPtc, ((k + 1 : Nat) : Int), 2)) := by show _ = _; rw [HGO2.out, if_pos (by rw [← ByteArray.toList_eq' t]; exact hne)]
        obtain ⟨A1, n1, c1, A4, n4, c4, hx⟩ := hin
        have q0 := hx.br.cell 0 rfl
        have q1 := hx.br.cell 1 rfl
        have q2 := hx.br.cell 2 rfl
        have q3 := hx.br.cell 3 rfl
        have q4 := hx.br.cell 4 rfl
        have qf := fun i => hx.br.free i
        have ql := hx.br.lt
        have hbel := hx.bel
        obtain ⟨hbz, hgz⟩ := hx.br.store5 (.string ⟨#[]⟩) (.slice none 0 0) (.int .i64 0) (.int .i64 0) (.slice none 0 0)
        have hbwz := hbel.grown hgz hbel.size (fun k hk => by injection hk with hk; omega)
        have y0 := hbz.cell 0 rfl
        have y1 := hbz.cell 1 rfl
        have y2 := hbz.cell 2 rfl
        have y3 := hbz.cell 3 rfl
        have y4 := hbz.cell 4 rfl
        go_wp2_with fail
        refine bodyPost_ret (v := .tuple #[.agg #[.string ⟨#[]⟩, .slice none 0 0, .int .i64 0, .int .i64 0, .slice none 0 0], .int .i64 ((k + 1 : Nat) : Int), .int .i64 2]) (by simp [results, Tryz.results47, go_sem, y0, y1, y2, y3, y4]) rfl ⟨?_, hbwz⟩
        rw [HB.out]
        exact retPtc_bad
      | true =>
        have hte2 : t.toList = [] := List.isEmpty_iff.1 hte
        have HGO3 : Hid (R = if ptcE r.ptc ≠ 0 then (zPtc, 0, ptcE r.ptc) else (r.ptc, 0, 0)) := by show _ = _; rw [HGO2.out, if_neg (by rw [← ByteArray.toList_eq' t, hte2]; simp)]
        have HTE := Lib.hid hte2
        clear HGO2 hte2
        have hne2 : (t.toList != ([] : List UInt8)) = false := by rw [HTE.out]; rfl
        clear hx' A1' n1' c1' A4' n4' c4' r5 rl
        obtain ⟨A1, n1, c1, A4, n4, c4, hx⟩ := hin
        obtain ⟨A6, c6, hv6, hc6, hs6⟩ := StrsV.of_own hx.os
        injection hv6 with z1 z2 z3
        subst z1 z2 z3
        obtain ⟨A7, c7, hv7, hc7, hs7⟩ := hx.om.sl (L := Lay.mov) rfl (fun x => rfl)
        injection hv7 with z1 z2 z3
        subst z1 z2 z3
        have hbw2 := hx.bel
        have hsl' := hx.sl
        have hml' := hx.ml
        have HCK : Hid (∀ W, Below w2.heap.size w2 W → Calls Tryz.prog 29 #[.agg #[.string r.cls, .slice A1 r.states.length c1, .int .i64 r.start, .int .i64 r.err, .slice A4 r.moves.length c4]] W fun e w' => e = .returned (.int .i64 (ptcE r.ptc)) ∧ Below W.heap.size W w') := fun W hW => ptcCheck_any r.ptc A1 A4 c1 c4 W (Lib.hid ⟨by have := HOKR.out.c; show r.cls.size ≤ _; omega, by show r.states.length ≤ _; omega, fun y hy => by have := HOKR.out.s y hy; omega, by show r.moves.length ≤ _; omega, fun y hy => by have := HOKR.out.m y hy; omega⟩) (hg.mono (below_step hbw2 hW)).kw hc6 (hs6.mono hW) (hs7.mono hW)
        have HBAD : Hid (ptcE r.ptc ≠ 0 → R = (zPtc, 0, ptcE r.ptc)) := fun h => by rw [HGO3.out, if_pos h]
        have HFINE : Hid (ptcE r.ptc = 0 → R = (r.ptc, 0, 0)) := fun h => by rw [HGO3.out, if_neg (by rw [h]; simp)]
        generalize ptcE r.ptc = pe at *
        have r0 := hx.bx.cell 0 rfl
        have r1 := hx.bx.cell 1 rfl
        have r2 := hx.bx.cell 2 rfl
        have r3 := hx.bx.cell 3 rfl
        have r4 := hx.bx.cell 4 rfl
        have r5 := hx.bx.cell 5 rfl
        rw [decide_eq_true hst] at r5
        have rl := hx.bx.lt
        clear hst
        go_wp2_with fail
        refine (HCK.out _ (Below.refl _ _)).mono ?_
        rintro e w3 ⟨rfl, hb3⟩
        have hx3 := hx.mono hb3
        clear r0 r1 r2 r3 r4 r5 rl
        by_cases hpe : pe = 0
        case neg =>
          have HB := Lib.hid (HBAD.out hpe)
          have tpe : (pe != 0) = true := by simpa using hpe
          clear hpe
          have hin : InR w (w.heap.size + 1) r w3 := ⟨_, _, _, _, _, _, hx3⟩
          clear hx
          obtain ⟨A1, n1, c1, A4, n4, c4, hx⟩ := hin
          have q0 := hx.br.cell 0 rfl
          have q1 := hx.br.cell 1 rfl
          have q2 := hx.br.cell 2 rfl
          have q3 := hx.br.cell 3 rfl
          have q4 := hx.br.cell 4 rfl
          have qf := fun i => hx.br.free i
          have ql := hx.br.lt
          have hbel := hx.bel
          obtain ⟨hbz, hgz⟩ := hx.br.store5 (.string ⟨#[]⟩) (.slice none 0 0) (.int .i64 0) (.int .i64 0) (.slice none 0 0)
          have hbwz := hbel.grown hgz hbel.size (fun k hk => by injection hk with hk; omega)
          have y0 := hbz.cell 0 rfl
          have y1 := hbz.cell 1 rfl
          have y2 := hbz.cell 2 rfl
          have y3 := hbz.cell 3 rfl
          have y4 := hbz.cell 4 rfl
          go_wp2_with fail
          refine bodyPost_ret (v := .tuple #[.agg #[.string ⟨#[]⟩, .slice none 0 0, .int .i64 0, .int .i64 0, .slice none 0 0], .int .i64 0, .int .i64 pe]) (by simp [results, Tryz.results47, go_sem, y0, y1, y2, y3, y4]) rfl ⟨?_, hbwz⟩
          rw [HB.out]
          exact retPtc_bad
        subst hpe
        have HB := Lib.hid (HFINE.out rfl)
        have r0 := hx3.bx.cell 0 rfl
        have r1 := hx3.bx.cell 1 rfl
        have r2 := hx3.bx.cell 2 rfl
        have r3 := hx3.bx.cell 3 rfl
        have r4 := hx3.bx.cell 4 rfl
        have rl := hx3.bx.lt
        have q0 := hx3.br.cell 0 rfl
        have q1 := hx3.br.cell 1 rfl
        have q2 := hx3.br.cell 2 rfl
        have q3 := hx3.br.cell 3 rfl
        have q4 := hx3.br.cell 4 rfl
        have qf := fun i => hx3.br.free i
        have ql := hx3.br.lt
        have hbel := hx3.bel
        obtain ⟨hbz, hgz⟩ := hx3.br.store5 (.string r.cls) (.slice A1 r.states.length c1) (.int .i64 r.start) (.int .i64 r.err) (.slice A4 r.moves.length c4)
        have hbwz := hbel.grown hgz hbel.size (fun k hk => by injection hk with hk; omega)
        have hos := hx3.os.kept hgz (fun k hk hv => by injection hk with hk; have := (World.ownsRow.lt hx3.os k hv).1; omega)
        have hom := hx3.om.kept hgz (fun k hk hv => by injection hk with hk; have := (World.ownsRow.lt hx3.om k hv).1; omega)
        have y0 := hbz.cell 0 rfl
        have y1 := hbz.cell 1 rfl
        have y2 := hbz.cell 2 rfl
        have y3 := hbz.cell 3 rfl
        have y4 := hbz.cell 4 rfl
        go_wp2_with fail
        refine bodyPost_ret (v := .tuple #[.agg #[.string r.cls, .slice A1 r.states.length c1, .int .i64 r.start, .int .i64 r.err, .slice A4 r.moves.length c4], .int .i64 0, .int .i64 0]) (by simp [results, Tryz.results47, go_sem, y0, y1, y2, y3, y4]) rfl ⟨?_, hbwz⟩
        rw [HB.out]
        exact ⟨A1, r.states.length, c1, A4, r.moves.length, c4, rfl, hos.base_le' (by omega), hom.base_le' (by omega)⟩
end Go.Proofs.YthabojhnliomnaaGreatDoor

namespace Go.Proofs.YthabojhnliomnaaGreatDoor
open Go.RowKit
set_option linter.unusedVariables false

structure RRul where
  kind : Int
  cls : ByteArray
  mth : ByteArray
  root : Int
  n : Int
  A : Option Addr
  m : Nat
  c : Nat
  star : Bool
  tag : ByteArray
def cellsRRul (x : RRul) : List Value := [.int .i64 x.kind, .string x.cls, .string x.mth, .int .i64 x.root, .int .i64 x.n, .slice x.A x.m x.c, .bool x.star, .string x.tag]
theorem cellsRRul_ok : CellsOk cellsRRul 8 := ⟨fun _ => rfl, fun _ u hu => by simp [cellsRRul] at hu; rcases hu with rfl | rfl | rfl | rfl | rfl | rfl | rfl | rfl <;> rfl⟩
structure RPtc where
  cls : ByteArray
  A1 : Option Addr
  n1 : Nat
  c1 : Nat
  start : Int
  err : Int
  A4 : Option Addr
  n4 : Nat
  c4 : Nat
def cellsRPtc (x : RPtc) : List Value := [.string x.cls, .slice x.A1 x.n1 x.c1, .int .i64 x.start, .int .i64 x.err, .slice x.A4 x.n4 x.c4]
theorem cellsRPtc_ok : CellsOk cellsRPtc 5 := ⟨fun _ => rfl, fun _ u hu => by simp [cellsRPtc] at hu; rcases hu with rfl | rfl | rfl | rfl | rfl <;> rfl⟩
theorem rulsTyR : ElemTy Tryz.prog 22 51 8 104 (.agg #[.int .i64 0, .string ByteArray.empty, .string ByteArray.empty, .int .i64 0, .int .i64 0, .slice none 0 0, .bool false, .string ByteArray.empty]) := ⟨Tryz.underlying22, by kernel_rfl, rfl, by omega⟩
theorem ptcsTyR : ElemTy Tryz.prog 23 63 5 80 (.agg #[.string ByteArray.empty, .slice none 0 0, .int .i64 0, .int .i64 0, .slice none 0 0]) := ⟨Tryz.underlying23, by kernel_rfl, rfl, by omega⟩
def RowTyK (w : World) (row : Option Nat) (t : TypeId) : Prop := ∀ b, row = some b → ∃ cs fr, w.heap[b]? = some (.cells cs t fr)
section
variable {α : Type} {cells : α → List Value} {size base : Nat} {e : TypeId} {w w' : World} {v : Value} {l : List α}
theorem Own.rowTyK (h : Own cells size base e w v l) : RowTyK w v.ownBlock e := fun b hb => by
  rcases h.2 with ⟨rfl, _⟩ | ⟨g, cap, cur, rfl, _, hh, _⟩
  · simp [Value.ownBlock] at hb
  · have : g = b := by simpa [Value.ownBlock] using hb
    subst this
    exact ⟨_, _, hh⟩
theorem Box.rowTyK {b : Nat} {cs : List Value} {t : TypeId} (h : Box w b cs t) : RowTyK w (some b) t := fun b' hb => by
  injection hb with hb
  subst hb
  exact ⟨_, _, h⟩
theorem Own.keptK {row : Option Nat} {t : TypeId} (h : Own cells size base e w v l) (hr : RowTyK w row t) (hne : e ≠ t) (hg : w.grownBy w' row) : Own cells size base e w' v l :=
  h.kept hg fun b hb hv => by
    obtain ⟨cs, fr, h1⟩ := hr b hb
    obtain ⟨cs', fr', h2⟩ := h.rowTyK b hv
    rw [h1] at h2
    injection h2 with h2
    injection h2 with _ h2 _
    exact hne h2.symm
end
structure RulAt (w : World) (base : Nat) (r : RRul) (x : Rul) : Prop where
  k : r.kind = x.kind
  c : r.cls = x.cls
  m : r.mth = x.mth
  rt : r.root = x.pth.root
  n : r.n = x.pth.n
  s : r.star = x.pth.star
  t : r.tag = x.tag
  f : Own cellsStr 1 base 9 w (.slice r.A r.m r.c) x.pth.fields
structure PtcAt (w : World) (base : Nat) (r : RPtc) (x : Ptc) : Prop where
  c : r.cls = x.cls
  s : r.start = x.start
  e : r.err = x.err
  os : Own cellsStr 1 base 9 w (.slice r.A1 r.n1 r.c1) x.states
  om : Own cellsMov 3 base 103 w (.slice r.A4 r.n4 r.c4) x.moves
structure AllAt {α β : Type} (R : α → β → Prop) (a : List α) (b : List β) : Prop where
  len : a.length = b.length
  each : ∀ (i : Nat) r s, a[i]? = some r → b[i]? = some s → R r s
theorem AllAt.nil {α β : Type} {R : α → β → Prop} : AllAt R [] [] := ⟨rfl, fun i r s h => by simp at h⟩
theorem AllAt.imp {α β : Type} {R S : α → β → Prop} {a : List α} {b : List β} (h : AllAt R a b) (hi : ∀ x y, R x y → S x y) : AllAt S a b := ⟨h.len, fun i r s h1 h2 => hi r s (h.each i r s h1 h2)⟩
theorem AllAt.snoc {α β : Type} {R : α → β → Prop} {a : List α} {b : List β} {x : α} {y : β} (h : AllAt R a b) (hx : R x y) : AllAt R (a ++ [x]) (b ++ [y]) := ⟨by simp [h.len], by
  have hl := h.len
  intro i r s h1 h2
  rcases Nat.lt_or_ge i a.length with hi | hi
  · rw [List.getElem?_append_left hi] at h1
    rw [List.getElem?_append_left (by omega)] at h2
    exact h.each i r s h1 h2
  · have h3 := (List.getElem?_eq_some_iff.1 h1).1
    have : i = a.length := by simp at h3; omega
    subst this
    rw [List.getElem?_append_right (Nat.le_refl _), Nat.sub_self] at h1
    rw [List.getElem?_append_right (by omega), hl, Nat.sub_self] at h2
    simp at h1 h2
    subst h1 h2
    exact hx⟩
section
variable {w w' : World} {base base' : Nat}
theorem RulAt.mono {r : RRul} {x : Rul} (h : RulAt w base r x) (hb : Below w.heap.size w w') : RulAt w' base r x := ⟨h.k, h.c, h.m, h.rt, h.n, h.s, h.t, h.f.mono hb⟩
theorem RulAt.lower {r : RRul} {x : Rul} (h : RulAt w base r x) (hb : base' ≤ base) : RulAt w base' r x := ⟨h.k, h.c, h.m, h.rt, h.n, h.s, h.t, h.f.base_le' hb⟩
theorem RulAt.keptK {row : Option Nat} {t : TypeId} {r : RRul} {x : Rul} (h : RulAt w base r x) (hr : RowTyK w row t) (hne : 9 ≠ t) (hg : w.grownBy w' row) : RulAt w' base r x := ⟨h.k, h.c, h.m, h.rt, h.n, h.s, h.t, h.f.keptK hr hne hg⟩
theorem PtcAt.mono {r : RPtc} {x : Ptc} (h : PtcAt w base r x) (hb : Below w.heap.size w w') : PtcAt w' base r x := ⟨h.c, h.s, h.e, h.os.mono hb, h.om.mono hb⟩
theorem PtcAt.lower {r : RPtc} {x : Ptc} (h : PtcAt w base r x) (hb : base' ≤ base) : PtcAt w base' r x := ⟨h.c, h.s, h.e, h.os.base_le' hb, h.om.base_le' hb⟩
theorem PtcAt.keptK {row : Option Nat} {t : TypeId} {r : RPtc} {x : Ptc} (h : PtcAt w base r x) (hr : RowTyK w row t) (hne : 9 ≠ t) (hne2 : 103 ≠ t) (hg : w.grownBy w' row) : PtcAt w' base r x := ⟨h.c, h.s, h.e, h.os.keptK hr hne hg, h.om.keptK hr hne2 hg⟩
theorem RulAt.rep {r : RRul} {x : Rul} (h : RulAt w base r x) : Lay.rul.rep w x (cellsRRul r) := by
  obtain ⟨A, c, hv, hc, hs⟩ := h.f.sl (L := Lay.str) rfl (fun x => rfl)
  injection hv with h1 h2 h3
  refine ⟨[.int .i64 r.root, .int .i64 r.n, .slice r.A r.m r.c, .bool r.star], ?_, A, c, ?_, hc, hs⟩
  · unfold cellsRRul
    rw [h.k, h.c, h.m, h.t]
    rfl
  · rw [h.rt, h.n, h.s, h1, h2, h3]
theorem PtcAt.rep {r : RPtc} {x : Ptc} (h : PtcAt w base r x) : Lay.ptc.rep w x (cellsRPtc r) := by
  obtain ⟨A, c, hv, hc, hs⟩ := h.os.sl (L := Lay.str) rfl (fun x => rfl)
  obtain ⟨A', c', hv', hc', hs'⟩ := h.om.sl (L := Lay.mov) rfl (fun x => rfl)
  injection hv with h1 h2 h3
  injection hv' with h1' h2' h3'
  refine ⟨A, c, A', c', ?_, hc, hs, hc', hs'⟩
  unfold cellsRPtc
  rw [h.c, h.s, h.e, h1, h2, h3, h1', h2', h3']
end
/-- While a policy is read. -/
structure InY (w : World) (A0 : Option Addr) (n0 c0 : Nat) (A1 : Option Addr) (n1 c1 : Nat) (rr : List RRul) (pp : List RPtc) (rs : List Rul) (ps : List Ptc) (W : World) : Prop where
  br : Box W w.heap.size [.slice none 0 0, .slice none 0 0] 25
  bp : Box W (w.heap.size + 1) [.slice A0 n0 c0, .slice A1 n1 c1] 25
  or : Own cellsRRul 8 (w.heap.size + 2) 51 W (.slice A0 n0 c0) rr
  op : Own cellsRPtc 5 (w.heap.size + 2) 63 W (.slice A1 n1 c1) pp
  ar : AllAt (RulAt W (w.heap.size + 2)) rr rs
  ap : AllAt (PtcAt W (w.heap.size + 2)) pp ps
  bel : Below w.heap.size w W
section
variable {w W W' : World} {A0 A1 : Option Addr} {n0 c0 n1 c1 : Nat} {rr : List RRul} {pp : List RPtc} {rs : List Rul} {ps : List Ptc}
theorem InY.mono (h : InY w A0 n0 c0 A1 n1 c1 rr pp rs ps W) (hb : Below W.heap.size W W') : InY w A0 n0 c0 A1 n1 c1 rr pp rs ps W' :=
  ⟨h.br.mono hb, h.bp.mono hb, h.or.mono hb, h.op.mono hb, h.ar.imp fun x y k => k.mono hb, h.ap.imp fun x y k => k.mono hb, below_step h.bel hb⟩
/-- One rule more: what append does, at a world W1 behind W in which the rule has been laid. -/
theorem InY.pushR (h : InY w A0 n0 c0 A1 n1 c1 rr pp rs ps W) {x : RRul} {y : Rul} (hx : RulAt W (w.heap.size + 2) x y) (hl : rs.length ≤ 70000) :
    ∃ A' n' c' w', (Builtin.append_ #[22, 22] 22 #[.slice A0 n0 c0, .slice (some ⟨W.heap.size, 0, none⟩) 1 1]).run Tryz.prog (W.alloc (.cells (cellsRRul x).toArray 51)) = .ok (.slice A' n' c') w' ∧ Box w' (w.heap.size + 1) [.slice A0 n0 c0, .slice A1 n1 c1] 25 ∧
      InY w A' n' c' A1 n1 c1 (rr ++ [x]) pp (rs ++ [y]) ps (w'.setCell ⟨w.heap.size + 1, 0, none⟩ (.slice A' n' c')) := by
  have hb1 : Below W.heap.size W (W.alloc (.cells (cellsRRul x).toArray 51)) := (by repeat (first | assumption | exact Below.refl _ _ | apply bw_alloc | apply bw_drew | apply bw_drewN | apply bw_later | apply bw_step))
  have h1 := h.mono hb1
  have hx1 := hx.mono hb1
  have hlen : rr.length ≤ 70000 := by rw [h.ar.len]; exact hl
  have hbl := h.bp.lt
  obtain ⟨v', w', hrun, ho', hb', hg', hz'⟩ := run_push rulsTyR cellsRRul_ok 22 h1.or x W.heap.size 1 (fun j u hj => (Box.new W (cellsRRul x) 51).cell j hj) (by unfold maxLen; omega) (by omega) (by have := hb1.size; omega)
  obtain ⟨A', n', c', rfl⟩ := ho'.isSl
  have hbp' := h1.bp.grown hg' (h1.or.ne_box h1.bp (by decide))
  have hbr' := h1.br.grown hg' (h1.or.ne_box h1.br (by decide))
  have hgs := grown_set w' (w.heap.size + 1) 0 (.slice A' n' c')
  have kR := h1.or.rowTyK
  have kB := hbp'.rowTyK
  refine ⟨A', n', c', w', hrun, hbp', hbr'.grown hgs (by simp), hbp'.set 0 _, ho'.keptK kB (by decide) hgs, ((h1.op.keptK kR (by decide) hg').keptK kB (by decide) hgs), ?_, ?_, ?_⟩
  · exact ((h1.ar.imp fun a b k => (k.keptK kR (by decide) hg').keptK kB (by decide) hgs).snoc ((hx1.keptK kR (by decide) hg').keptK kB (by decide) hgs))
  · exact h1.ap.imp fun a b k => (k.keptK kR (by decide) (by decide) hg').keptK kB (by decide) (by decide) hgs
  · exact ((h1.bel.trans (hb'.mono (by omega)))).setCell (by simp) _
theorem InY.pushP (h : InY w A0 n0 c0 A1 n1 c1 rr pp rs ps W) {x : RPtc} {y : Ptc} (hx : PtcAt W (w.heap.size + 2) x y) (hl : ps.length ≤ 70000) :
    ∃ A' n' c' w', (Builtin.append_ #[23, 23] 23 #[.slice A1 n1 c1, .slice (some ⟨W.heap.size, 0, none⟩) 1 1]).run Tryz.prog (W.alloc (.cells (cellsRPtc x).toArray 63)) = .ok (.slice A' n' c') w' ∧ Box w' (w.heap.size + 1) [.slice A0 n0 c0, .slice A1 n1 c1] 25 ∧
      InY w A0 n0 c0 A' n' c' rr (pp ++ [x]) rs (ps ++ [y]) (w'.setCell ⟨w.heap.size + 1, 1, none⟩ (.slice A' n' c')) := by
  have hb1 : Below W.heap.size W (W.alloc (.cells (cellsRPtc x).toArray 63)) := (by repeat (first | assumption | exact Below.refl _ _ | apply bw_alloc | apply bw_drew | apply bw_drewN | apply bw_later | apply bw_step))
  have h1 := h.mono hb1
  have hx1 := hx.mono hb1
  have hlen : pp.length ≤ 70000 := by rw [h.ap.len]; exact hl
  have hbl := h.bp.lt
  obtain ⟨v', w', hrun, ho', hb', hg', hz'⟩ := run_push ptcsTyR cellsRPtc_ok 23 h1.op x W.heap.size 1 (fun j u hj => (Box.new W (cellsRPtc x) 63).cell j hj) (by unfold maxLen; omega) (by omega) (by have := hb1.size; omega)
  obtain ⟨A', n', c', rfl⟩ := ho'.isSl
  have hbp' := h1.bp.grown hg' (h1.op.ne_box h1.bp (by decide))
  have hbr' := h1.br.grown hg' (h1.op.ne_box h1.br (by decide))
  have hgs := grown_set w' (w.heap.size + 1) 1 (.slice A' n' c')
  have kR := h1.op.rowTyK
  have kB := hbp'.rowTyK
  refine ⟨A', n', c', w', hrun, hbp', hbr'.grown hgs (by simp), hbp'.set 1 _, ((h1.or.keptK kR (by decide) hg').keptK kB (by decide) hgs), ho'.keptK kB (by decide) hgs, ?_, ?_, ?_⟩
  · exact h1.ar.imp fun a b k => (k.keptK kR (by decide) hg').keptK kB (by decide) hgs
  · exact ((h1.ap.imp fun a b k => (k.keptK kR (by decide) (by decide) hg').keptK kB (by decide) (by decide) hgs).snoc ((hx1.keptK kR (by decide) (by decide) hg').keptK kB (by decide) (by decide) hgs))
  · exact ((h1.bel.trans (hb'.mono (by omega)))).setCell (by simp) _
end
end Go.Proofs.YthabojhnliomnaaGreatDoor

namespace Go.Proofs.YthabojhnliomnaaGreatDoor
open Go.RowKit
set_option linter.unusedVariables false

def zPol : Pol := ⟨[], []⟩
/-- The first line 'end'. -/
def endAt (ls : List (List UInt8)) : Option Nat := ls.dropLast.findIdx? (fun x => x == wE)
/-- The pieces of the part with which the lines begin, the number of its lines, and the pieces behind it. -/
def partP (ls : List (List UInt8)) : List (List UInt8) × Nat × List (List UInt8) := match endAt ls with
  | some i => (ls.take (i + 1) ++ [[]], i + 1, ls.drop (i + 1))
  | none => (ls, ls.length - 1, [[]])
theorem spl_lnT {ls : List (List UInt8)} (h : ∀ x ∈ ls, (10 : UInt8) ∉ x) : spl 10 (lnT ls) = ls ++ [[]] := by
  have h1 : lnT ls = glue 10 (ls ++ [[]]) := by rw [glue_app (by simp)]; simp [glue]
  rw [h1, spl_glue (by simp)]
  intro x hx
  rcases List.mem_append.1 hx with hx | hx
  · exact h x hx
  · simp at hx; subst hx; simp
theorem PartR.pieces {s : ByteArray} {ls : List (List UInt8)} {P : ByteArray} {n : Nat} {r : ByteArray} (hls : spl 10 (toL s) = ls) (h : PartR s ls P n r) : spl 10 (toL P) = (partP ls).1 ∧ n = (partP ls).2.1 ∧ spl 10 (toL r) = (partP ls).2.2 := by
  unfold partP
  cases he : endAt ls with
  | some i =>
    obtain ⟨hi, h1, h2⟩ := List.findIdx?_eq_some_iff_getElem.1 he
    rw [List.length_dropLast] at hi
    have h3 : ls[i]? = some wE := by
      rw [List.getElem_dropLast] at h1
      rw [List.getElem?_eq_getElem (by omega)]
      congr 1
      simpa using h1
    obtain ⟨k1, k2, k3⟩ := h.yes i (by omega) (fun j hj hji e => by
      have := h2 j hji
      rw [List.getElem_dropLast] at this
      simp [e] at this) h3
    refine ⟨?_, k2, k3⟩
    rw [k1]
    exact spl_lnT (fun x hx => spl_mem (l := toL s) (by rw [hls]; exact List.mem_of_mem_take hx))
  | none =>
    have h1 := List.findIdx?_eq_none_iff.1 he
    obtain ⟨rfl, k2, rfl⟩ := h.no (fun j hj hj2 e => by
      have := h1 ls[j] (by
        rw [List.mem_iff_getElem]
        exact ⟨j, by rw [List.length_dropLast]; omega, by rw [List.getElem_dropLast]⟩)
      simp [e] at this)
    exact ⟨hls, k2, rfl⟩
theorem partP_len {ls : List (List UInt8)} (h : 2 ≤ ls.length) : (partP ls).2.2.length + 1 ≤ ls.length ∧ 0 < (partP ls).2.2.length ∧ (partP ls).2.1 + (partP ls).2.2.length ≤ ls.length := by
  unfold partP
  cases he : endAt ls with
  | some i =>
    obtain ⟨hi, _, _⟩ := List.findIdx?_eq_some_iff_getElem.1 he
    rw [List.length_dropLast] at hi
    simp only [List.length_drop]
    omega
  | none => simp; omega
/-- The protocols from line i on. -/
def ph2 : Nat → Nat → List Rul → List Ptc → List (List UInt8) → Pol × Int × Int
  | 0, i, rs, ps, ls => (zPol, i, 2)
  | f + 1, i, rs, ps, ls => match ls with
    | [] => (zPol, i, 2)
    | [x] => if x ≠ [] then (zPol, i, 2) else if (polE ⟨rs, ps⟩).2 ≠ 0 then (zPol, 0, (polE ⟨rs, ps⟩).2) else (⟨rs, ps⟩, 0, 0)
    | x :: y :: t => if begP x = false then (zPol, i, 2) else if (ptcP (partP ls).1).2.2 ≠ 0 then (zPol, (i : Int) + max (ptcP (partP ls).1).2.1 1 - 1, (ptcP (partP ls).1).2.2) else ph2 f (i + (partP ls).2.1) rs (ps ++ [(ptcP (partP ls).1).1]) (partP ls).2.2
/-- The rules from line i on, then the protocols. -/
def ph1 (i : Nat) (rs : List Rul) : List (List UInt8) → Pol × Int × Int
  | [] => (zPol, i, 2)
  | [x] => ph2 1 i rs [] [x]
  | x :: y :: t => if begP x then ph2 (x :: y :: t).length i rs [] (x :: y :: t) else if (ruleP (bsOf x)).2 ≠ 0 then (zPol, i, (ruleP (bsOf x)).2) else ph1 (i + 1) (rs ++ [(ruleP (bsOf x)).1]) (y :: t)
/-- The policy with a text, or an error and its line. -/
def polP (s : ByteArray) : Pol × Int × Int := if 65536 < s.size then (zPol, 0, 3) else ph1 1 [] (spl 10 (toL s))
theorem acpP_ok {l : List UInt8} (hl : l.length ≤ 65536) : (acpP l).1.fields.length ≤ 65537 ∧ ∀ x ∈ (acpP l).1.fields, x.size ≤ 65536 := by
  have hz : zAcp.fields.length ≤ 65537 ∧ ∀ x ∈ zAcp.fields, x.size ≤ 65536 := ⟨by simp [zAcp], by simp [zAcp]⟩
  have hb := acpBody_len l
  have hbs : (bsOf (acpBody l)).size ≤ 65536 := by rw [bsOf_size]; omega
  have ho : (acpOf l).fields.length ≤ 65537 ∧ ∀ x ∈ (acpOf l).fields, x.size ≤ 65536 := by
    unfold acpOf acpWs
    refine ⟨?_, fun x hx => ?_⟩
    · have := wds_len 46 (bsOf (acpBody l))
      simp only [List.length_tail]
      omega
    · have := wds_size (List.mem_of_mem_tail hx)
      omega
  unfold acpP
  repeat' split
  all_goals first | exact hz | exact ho
theorem ruleP_ok {s : ByteArray} (hs : s.size ≤ 65536) : OkRul (ruleP s).1 := by
  have hz : OkRul zRul := ⟨Nat.zero_le _, Nat.zero_le _, Nat.zero_le _, Nat.zero_le _, by simp [zRul, zAcp, OkStrs]⟩
  unfold ruleP
  split
  · exact hz
  split
  · rename_i x0 x1 x2 x3 x4 hw
    have hm : ∀ x ∈ [x0, x1, x2, x3, x4], x.size ≤ 65536 := fun x hx => by
      rw [← hw] at hx
      have := wds_size hx
      omega
    unfold ruleW
    split
    · exact hz
    split
    · exact hz
    · have h3 := hm x3 (by simp)
      obtain ⟨a1, a2⟩ := acpP_ok (l := toL x3) (by rw [toL_len]; exact h3)
      refine ⟨?_, ?_, ?_, ?_, ?_⟩
      · have := hm x1 (by simp); show x1.size ≤ _; omega
      · have := hm x2 (by simp); show x2.size ≤ _; omega
      · have := hm x4 (by simp); show x4.size ≤ _; omega
      · show (acpP (toL x3)).1.fields.length ≤ _; omega
      · exact fun y hy => by have := a2 y hy; omega
  · exact hz
theorem ptcGo_ok : ∀ (ls : List (List UInt8)) (i : Nat) (r : Rd), RdOk r → r.states.length ≤ 65537 → r.moves.length + ls.length ≤ 70000 → (∀ x ∈ ls, x.length ≤ 65536) → OkPtc (ptcGo i r ls).1
  | [], i, r, _, _, _, _ => ⟨Nat.zero_le _, Nat.zero_le _, by simp [ptcGo, zPtc, OkStrs], Nat.zero_le _, by simp [ptcGo, zPtc, OkMovs]⟩
  | [x], i, r, h, h2, h3, h4 => by
    have hz : OkPtc zPtc := ⟨Nat.zero_le _, Nat.zero_le _, by simp [zPtc, OkStrs], Nat.zero_le _, by simp [zPtc, OkMovs]⟩
    unfold ptcGo
    split
    · exact hz
    split
    · exact hz
    split
    · exact hz
    · refine ⟨?_, ?_, ?_, ?_, ?_⟩
      · have := h.c; show r.cls.size ≤ _; omega
      · show r.states.length ≤ _; omega
      · exact fun y hy => by have := h.s y hy; omega
      · show r.moves.length ≤ _; omega
      · exact fun y hy => by have := h.m y hy; omega
  | x :: y :: t, i, r, h, h2, h3, h4 => by
    have hz : OkPtc zPtc := ⟨Nat.zero_le _, Nat.zero_le _, by simp [zPtc, OkStrs], Nat.zero_le _, by simp [zPtc, OkMovs]⟩
    have hx := h4 x (by simp)
    have hbs : (bsOf x).size ≤ 65536 := by rw [bsOf_size]; exact hx
    have hw : ∀ z ∈ wds 32 (bsOf x), z.size ≤ 65536 := fun z hz => by have := wds_size hz; omega
    have hwl := wds_len 32 (bsOf x)
    unfold ptcGo
    split
    · exact hz
    split
    · exact hz
    · refine ptcGo_ok (y :: t) (i + 1) _ (stepR_ok h hw) ?_ ?_ (fun z hz => h4 z (by simp at hz ⊢; right; exact hz))
      · have : (stepR r (wds 32 (bsOf x))).1.states.length ≤ max r.states.length (wds 32 (bsOf x)).length := by
          unfold stepR
          repeat' split
          all_goals (simp; try omega)
        omega
      · have := stepR_moves r (wds 32 (bsOf x))
        simp at h3 ⊢
        omega
end Go.Proofs.YthabojhnliomnaaGreatDoor

namespace Go.Proofs.YthabojhnliomnaaGreatDoor
open Go.RowKit
set_option linter.unusedVariables false

def RetPol (r : Pol × Int × Int) (w' : World) (e : Ending) : Prop := ∃ A0 c0 A1 c1, e = .returned (.tuple #[.agg #[.slice A0 r.1.rules.length c0, .slice A1 r.1.protocols.length c1], .int .i64 r.2.1, .int .i64 r.2.2]) ∧ r.1.rules.length ≤ c0 ∧ Sl Lay.rul w' A0 r.1.rules ∧ r.1.protocols.length ≤ c1 ∧ Sl Lay.ptc w' A1 r.1.protocols
theorem retPol_bad {w' : World} {i e : Int} : RetPol (zPol, i, e) w' (.returned (.tuple #[.agg #[.slice none 0 0, .slice none 0 0], .int .i64 i, .int .i64 e])) := ⟨none, 0, none, 0, rfl, Nat.le_refl _, Sl.nil, Nat.le_refl _, Sl.nil⟩
def InZ (w : World) (rs : List Rul) (ps : List Ptc) (W : World) : Prop := ∃ A0 n0 c0 A1 n1 c1 rr pp, InY w A0 n0 c0 A1 n1 c1 rr pp rs ps W
theorem InZ.mono {w W W' : World} {rs : List Rul} {ps : List Ptc} (h : InZ w rs ps W) (hb : Below W.heap.size W W') : InZ w rs ps W' := by
  obtain ⟨A0, n0, c0, A1, n1, c1, rr, pp, hy⟩ := h
  exact ⟨A0, n0, c0, A1, n1, c1, rr, pp, hy.mono hb⟩
theorem InZ.bel {w W : World} {rs : List Rul} {ps : List Ptc} (h : InZ w rs ps W) : Below w.heap.size w W := by
  obtain ⟨A0, n0, c0, A1, n1, c1, rr, pp, hy⟩ := h
  exact hy.bel
def strOf : Value → ByteArray
  | .string s => s
  | _ => ⟨#[]⟩
theorem mem_spl {l : List UInt8} : (10 : UInt8) ∈ l ↔ 2 ≤ (spl 10 l).length := by
  rcases spl_cases 10 l with ⟨h1, h2⟩ | ⟨a, t, h, ha, h2⟩
  · rw [h2]; simp [h1]
  · rw [h2, h]
    have := List.length_pos_iff.2 (spl_ne 10 t)
    simp
    omega
theorem partP_pos {ls : List (List UInt8)} (h : 2 ≤ ls.length) : 1 ≤ (partP ls).2.1 := by
  unfold partP
  split
  · simp
  · simp; omega
theorem ptcGo_at : ∀ (ls : List (List UInt8)) (i : Nat) (r : Rd), 0 ≤ (ptcGo i r ls).2.1 ∧ (ptcGo i r ls).2.1 ≤ (i + ls.length : Nat)
  | [], i, r => by unfold ptcGo; simp
  | [x], i, r => by
    unfold ptcGo
    repeat' split
    all_goals (simp; try omega)
  | x :: y :: t, i, r => by
    unfold ptcGo
    split
    · simp; omega
    split
    · simp; omega
    · have := ptcGo_at (y :: t) (i + 1) (stepR r (wds 32 (bsOf x))).1
      simp at this ⊢
      omega
/-- Between the rules and the protocols. -/
structure Mid (R : Pol × Int × Int) (t : ByteArray) (i : Nat) (rs : List Rul) (ps : List Ptc) : Prop where
  go : ∃ f, (spl 10 (toL t)).length ≤ f ∧ R = ph2 f i rs ps (spl 10 (toL t))
  okr : ∀ x ∈ rs, OkRul x
  okp : ∀ x ∈ ps, OkPtc x
set_option maxRecDepth 100000 in
set_option maxHeartbeats 8000000 in
theorem polParse_any (s : ByteArray) (w : World) (hg : Glob w) : Calls Tryz.prog 15 #[.string s] w fun e w' => RetPol (polP s) w' e ∧ Below w.heap.size w w' := by
  obtain ⟨R, HR⟩ : ∃ R, Hid (R = polP s) := ⟨_, Lib.hid rfl⟩
  rw [← HR.out]
  go_enter Tryz.func15, Tryz.ntmps15
  by_cases hlong : 65536 < s.size
  · have HB : Hid (R = (zPol, 0, 3)) := by show _ = _; rw [HR.out, polP, if_pos hlong]
    have hlongI : (65536 : Int) < (s.size : Int) := by omega
    go_wp2_with fail
    refine bodyPost_ret (v := .tuple #[.agg #[.slice none 0 0, .slice none 0 0], .int .i64 0, .int .i64 3]) (by simp [results, Tryz.results15, go_sem]) rfl ⟨?_, ?_⟩
    · rw [HB.out]
      exact retPol_bad
    · exact (by repeat (first | assumption | exact Below.refl _ _ | apply bw_alloc | apply bw_drew | apply bw_drewN | apply bw_later | apply bw_step))
  have hs : s.size ≤ 65536 := by omega
  obtain ⟨ls, HLS⟩ : ∃ ls, Hid (spl 10 (toL s) = ls) := ⟨_, Lib.hid rfl⟩
  have HST : Hid (R = ph1 (0 + 1) [] (ls.drop 0)) := by show _ = _; rw [HR.out, polP, if_neg hlong, HLS.out]; rfl
  have hll : ls.length ≤ 65537 := by rw [← HLS.out]; have := spl_len 10 (toL s); rw [toL_len] at this; omega
  have hl0 : 0 < ls.length := by rw [← HLS.out]; exact List.length_pos_iff.2 (spl_ne _ _)
  have hsI : ¬ (65536 : Int) < (s.size : Int) := by omega
  clear HR hlong
  go_upto_region 4 with fail
  generalize hW : World.alloc (World.alloc w _) _ = w1
  have hin0 : InZ w [] [] w1 := by
    rw [← hW]
    exact ⟨none, 0, 0, none, 0, 0, [], [], (by repeat (first | (refine Box.at ?_; (simp; done)) | apply Box.drew | apply Box.alloc | assumption)), (by repeat (first | (refine Box.at ?_; (simp; done)) | apply Box.drew | apply Box.alloc | assumption)), Own.nil, Own.nil, AllAt.nil, AllAt.nil, (by repeat (first | assumption | exact Below.refl _ _ | apply bw_alloc | apply bw_drew | apply bw_drewN | apply bw_later | apply bw_step))⟩
  clear hW
  go_upto_block 0 with fail
  go_cut [0, 6] (fun v0 v6 wx => ∃ (t : ByteArray) (i : Nat) (rs : List Rul), v0 = .string t ∧ v6 = .int .i64 i ∧ t.size ≤ 65536 ∧ i + (spl 10 (toL t)).length ≤ 70000 ∧ rs.length ≤ 65537 ∧ Hid (Mid R t i rs []) ∧ InZ w rs [] wx)
  case first =>
    go_wp2_with fail
    go_loopw [0, 6] (fun v0 v6 wr => ∃ (k : Nat) (t : ByteArray) (rs : List Rul), v0 = .string t ∧ v6 = .int .i64 (k + 1 : Nat) ∧ k < ls.length ∧ t.size ≤ 65536 ∧ rs.length ≤ k ∧ InZ w rs [] wr ∧ Hid (spl 10 (toL t) = ls.drop k ∧ R = ph1 (k + 1) rs (ls.drop k) ∧ ∀ x ∈ rs, OkRul x)) (fun v0 v6 _ => ls.length + 1 - (intOf v6).toNat)
    case atStart => exact ⟨0, s, [], rfl, rfl, hl0, hs, Nat.zero_le _, hin0, HLS.out, HST.out, by simp⟩
    case round =>
      clear hin0 HST
      obtain ⟨k, t, rs, rfl, rfl, hk, ht, hrl, hin, HI⟩ := hrel
      have hbw := hin.bel
      by_cases hlast : k + 1 < ls.length
      · have hd : ls.drop k = ls[k] :: ls[k + 1] :: ls.drop (k + 2) := by rw [List.drop_eq_getElem_cons hk, List.drop_eq_getElem_cons hlast]
        obtain ⟨T0, h1, h2, h3⟩ := cut_first (HI.out.1.trans hd)
        have hts : (bsOf T0).size ≤ t.size := by
          rw [bsOf_size, ← toL_len, h3]
          simp
          omega
        have hxs : (bsOf ls[k]).size ≤ t.size := by
          rw [bsOf_size, ← toL_len, h3]
          simp
        have HC : Hid (∀ W, Below w.heap.size w W → Calls Tryz.prog 42 #[.string t, .string ⟨#[10]⟩] W fun e w' => e = .returned (.tuple #[.string (bsOf ls[k]), .string (bsOf T0), .bool true]) ∧ Below W.heap.size W w') := fun W hW => cut_yes W (hg.mono hW) (by omega) h1
        have HN : Hid (spl 10 (toL (bsOf T0)) = ls.drop (k + 1)) := by show spl 10 T0 = _; rw [h2, List.drop_eq_getElem_cons hlast]
        have HBG : Hid (∀ W, Below w.heap.size w W → Calls Tryz.prog 43 #[.string (bsOf ls[k])] W fun e w' => e = .returned (.bool (begP ls[k])) ∧ Below W.heap.size W w') := fun W hW => begins_any (bsOf ls[k]) W (hg.mono hW) (by omega)
        have HPR : Hid (∀ W, Below w.heap.size w W → Calls Tryz.prog 44 #[.string (bsOf ls[k])] W fun e w' => RetRul W.heap.size (ruleP (bsOf ls[k])) w' e ∧ Below W.heap.size W w') := fun W hW => parseRule_any (bsOf ls[k]) W (hg.mono hW) (by omega)
        have HGO : Hid (R = if begP ls[k] then ph2 (ls.drop k).length (k + 1) rs [] (ls.drop k) else if (ruleP (bsOf ls[k])).2 ≠ 0 then (zPol, ((k + 1 : Nat) : Int), (ruleP (bsOf ls[k])).2) else ph1 (k + 1 + 1) (rs ++ [(ruleP (bsOf ls[k])).1]) (ls.drop (k + 1))) := by
          show _ = _
          rw [HI.out.2.1, hd, ph1, List.drop_eq_getElem_cons hlast]
        have HOKN := Lib.hid (ruleP_ok (s := bsOf ls[k]) (by omega))
        clear h1 h2 h3 hd
        go_wp2_with fail
        refine (HC.out _ hbw).mono ?_
        rintro e w2 ⟨rfl, hb2⟩
        have hin2 := hin.mono hb2
        clear hin
        go_wp2_with fail
        refine (HBG.out _ hin2.bel).mono ?_
        rintro e w3 ⟨rfl, hb3⟩
        have hin := hin2.mono hb3
        clear hin2
        cases hbg : begP ls[k] with
        | true =>
          have HM : Hid (Mid R t (k + 1) rs []) := ⟨⟨(ls.drop k).length, by rw [HI.out.1]; exact Nat.le_refl _, by rw [HGO.out, if_pos hbg, HI.out.1]⟩, HI.out.2.2, by simp⟩
          have hle : k + 1 + (spl 10 (toL t)).length ≤ 70000 := by rw [HI.out.1, List.length_drop]; omega
          go_wp2_with fail
          go_meet
          exact ⟨t, k + 1, rs, rfl, by go_num, ht, hle, by omega, HM, hin⟩
        | false =>
          have HGO2 : Hid (R = if (ruleP (bsOf ls[k])).2 ≠ 0 then (zPol, ((k + 1 : Nat) : Int), (ruleP (bsOf ls[k])).2) else ph1 (k + 1 + 1) (rs ++ [(ruleP (bsOf ls[k])).1]) (ls.drop (k + 1))) := by show _ = _; rw [HGO.out, if_neg (by rw [hbg]; simp)]
          clear HGO hbg
          go_wp2_with fail
          refine (HPR.out _ hin.bel).mono ?_
          rintro e w4 ⟨⟨A, m, c, rfl, hown⟩, hb4⟩
          have hsz3 : w.heap.size + 2 ≤ w3.heap.size := by
            obtain ⟨_, _, _, _, _, _, _, _, hy⟩ := hin
            exact hy.bp.lt
          have hin4 := hin.mono hb4
          clear hin HPR HBG HC
          generalize ruleP (bsOf ls[k]) = rp at *
          obtain ⟨⟨kd, cl, mt, ⟨rt, n, fl, st⟩, tg⟩, er⟩ := rp
          simp only at hown HGO2 HOKN ⊢
          obtain ⟨A0, n0, c0, A1, n1, c1, rr, pp, hy⟩ := hin4
          by_cases her : er = 0
          case neg =>
            have HB : Hid (R = (zPol, ((k + 1 : Nat) : Int), er)) := by show _ = _; rw [HGO2.out, if_pos her]
            have ter : (er != 0) = true := by simpa using her
            clear her
            replace hy := hy.mono (show Below w4.heap.size w4 (w4.alloc (.cells #[.int .i64 kd, .string cl, .string mt, .int .i64 rt, .int .i64 n, .slice A m c, .bool st, .string tg] 51)) from bw_alloc (Below.refl _ _))
            go_upto_region 9 with fail
            generalize World.alloc w4 _ = w5 at *
            have q0 := hy.br.cell 0 rfl
            have q1 := hy.br.cell 1 rfl
            have qf := fun i => hy.br.free i
            have ql := hy.br.lt
            have hbel := hy.bel
            obtain ⟨hbz, hgz⟩ := hy.br.store2 (.slice none 0 0) (.slice none 0 0)
            have hbwz := hbel.grown hgz hbel.size (fun k hk => by injection hk with hk; omega)
            have y0 := hbz.cell 0 rfl
            have y1 := hbz.cell 1 rfl
            go_wp2_with fail
            refine bodyPost_ret (v := .tuple #[.agg #[.slice none 0 0, .slice none 0 0], .int .i64 ((k + 1 : Nat) : Int), .int .i64 er]) (by simp [results, Tryz.results15, go_sem, y0, y1]) rfl ⟨?_, hbwz⟩
            rw [HB.out]
            exact retPol_bad
          subst her
          have hra : RulAt w4 (w.heap.size + 2) ⟨kd, cl, mt, rt, n, A, m, c, st, tg⟩ ⟨kd, cl, mt, ⟨rt, n, fl, st⟩, tg⟩ := ⟨rfl, rfl, rfl, rfl, rfl, rfl, rfl, hown.base_le' hsz3⟩
          have hy5 := hy.mono (show Below w4.heap.size w4 (w4.alloc (.cells #[.int .i64 kd, .string cl, .string mt, .int .i64 rt, .int .i64 n, .slice A m c, .bool st, .string tg] 51)) from bw_alloc (Below.refl _ _))
          have hra5 := hra.mono (show Below w4.heap.size w4 (w4.alloc (.cells #[.int .i64 kd, .string cl, .string mt, .int .i64 rt, .int .i64 n, .slice A m c, .bool st, .string tg] 51)) from bw_alloc (Below.refl _ _))
          have bq5 := Box.new w4 [.int .i64 kd, .string cl, .string mt, .int .i64 rt, .int .i64 n, .slice A m c, .bool st, .string tg] 51
          go_upto_region 8 with fail
          generalize World.alloc w4 _ = w5 at *
          obtain ⟨A', n', c', w6, hrun, hbp6, hy6⟩ := hy5.pushR hra5 (by omega)
          unfold cellsRRul at hrun
          have p0 := hy5.bp.cell 0 rfl
          have pl := hy5.bp.lt
          have b0 := bq5.cell 0 rfl
          have b1 := bq5.cell 1 rfl
          have b2 := bq5.cell 2 rfl
          have b3 := bq5.cell 3 rfl
          have b4 := bq5.cell 4 rfl
          have b5 := bq5.cell 5 rfl
          have b6 := bq5.cell 6 rfl
          have b7 := bq5.cell 7 rfl
          have bl := bq5.lt
          have z0 := hbp6.cell 0 rfl
          have zf := fun i => hbp6.free i
          have zl := hbp6.lt
          go_wp2_with (at_builtin; refine wpList_appendRun rfl (.tmp 50) (.tmp 52) 22 rfl rfl rfl hrun ?_)
          have HI2 : Hid (spl 10 (toL (bsOf T0)) = ls.drop (k + 1) ∧ R = ph1 (k + 1 + 1) (rs ++ [⟨kd, cl, mt, ⟨rt, n, fl, st⟩, tg⟩]) (ls.drop (k + 1)) ∧ ∀ x ∈ rs ++ [(⟨kd, cl, mt, ⟨rt, n, fl, st⟩, tg⟩ : Rul)], OkRul x) := ⟨HN.out, by rw [HGO2.out, if_neg (by simp)], fun x hx => by
            rcases List.mem_append.1 hx with hx | hx
            · exact HI.out.2.2 x hx
            · simp at hx; subst hx; exact HOKN.out⟩
          go_roundw
          case rel => exact ⟨k + 1, bsOf T0, _, rfl, by go_num, hlast, by omega, by rw [List.length_append]; simp; omega, ⟨_, _, _, _, _, _, _, _, hy6⟩, HI2⟩
          case measure => simp [intOf]; omega
      · have hd : ls.drop k = [ls[k]] := by rw [List.drop_eq_getElem_cons hk, List.drop_eq_nil_of_le (by omega)]
        have HC : Hid (∀ W, Below w.heap.size w W → Calls Tryz.prog 42 #[.string t, .string ⟨#[10]⟩] W fun e w' => e = .returned (.tuple #[.string t, .string ⟨#[]⟩, .bool false]) ∧ Below W.heap.size W w') := fun W hW => cut_no W (hg.mono hW) (by omega) (HI.out.1.trans hd)
        have HM : Hid (Mid R t (k + 1) rs []) := ⟨⟨1, by rw [HI.out.1, hd]; exact Nat.le_refl _, by rw [HI.out.2.1, HI.out.1, hd]; rfl⟩, HI.out.2.2, by simp⟩
        have hle : k + 1 + (spl 10 (toL t)).length ≤ 70000 := by rw [HI.out.1, List.length_drop]; omega
        clear hd
        go_wp2_with fail
        refine (HC.out _ hbw).mono ?_
        rintro e w2 ⟨rfl, hb2⟩
        go_wp2_with fail
        go_meet
        exact ⟨t, k + 1, rs, rfl, by go_num, ht, hle, by omega, HM, hin.mono hb2⟩
  case rest =>
    clear hin0 HST HLS hll hl0 hsI hs
    obtain ⟨t, i, rs, rfl, rfl, hts, hil, hrl, HM, hin⟩ := hcut
    have hps0 : ([] : List Ptc).length ≤ i := Nat.zero_le _
    go_wp2_with fail
    go_loopw [0, 6] (fun v0 v6 wr => ∃ (t : ByteArray) (i : Nat) (ps : List Ptc), v0 = .string t ∧ v6 = .int .i64 i ∧ t.size ≤ 65536 ∧ i + (spl 10 (toL t)).length ≤ 70000 ∧ ps.length ≤ i ∧ Hid (Mid R t i rs ps) ∧ InZ w rs ps wr) (fun v0 _ _ => (spl 10 (toL (strOf v0))).length)
    case atStart => exact ⟨t, i, [], rfl, rfl, hts, hil, hps0, HM, hin⟩
    case round =>
      clear hts hil HM hin hps0
      obtain ⟨t, i, ps, rfl, rfl, hts, hil, hpl, HM, hin⟩ := hrel
      by_cases h2 : 2 ≤ (spl 10 (toL t)).length
      · obtain ⟨ls, HLS⟩ : ∃ ls, Hid (spl 10 (toL t) = ls) := ⟨_, Lib.hid rfl⟩
        rw [HLS.out] at h2 hil
        have HCT : Hid (∀ W, Calls Tryz.prog 45 #[.string t, .string ⟨#[10]⟩] W fun e w' => e = .returned (.bool true) ∧ W = w') := fun W => by
          have h := containsOne 10 t W
          rw [decide_eq_true (mem_spl.2 (by rw [HLS.out]; exact h2))] at h
          exact h
        obtain ⟨x, y, tl, hxy⟩ : ∃ x y tl, ls = x :: y :: tl := by
          match ls, h2 with
          | x :: y :: tl, _ => exact ⟨x, y, tl, rfl⟩
        obtain ⟨T0, h1, _, h3⟩ := cut_first (HLS.out.trans hxy)
        have hxs : (bsOf x).size ≤ t.size := by
          rw [bsOf_size, ← toL_len, h3]
          simp
        have HC : Hid (∀ W, Below w.heap.size w W → Calls Tryz.prog 42 #[.string t, .string ⟨#[10]⟩] W fun e w' => e = .returned (.tuple #[.string (bsOf x), .string (bsOf T0), .bool true]) ∧ Below W.heap.size W w') := fun W hW => cut_yes W (hg.mono hW) (by omega) h1
        have HBG : Hid (∀ W, Below w.heap.size w W → Calls Tryz.prog 43 #[.string (bsOf x)] W fun e w' => e = .returned (.bool (begP x)) ∧ Below W.heap.size W w') := fun W hW => begins_any (bsOf x) W (hg.mono hW) (by omega)
        have HCP := Lib.hid (fun W (hW : Below w.heap.size w W) => cutPart_any t ls W (hg.mono hW) hts HLS)
        have HPL := Lib.hid (partP_len h2)
        have HN1 := Lib.hid (partP_pos h2)
        obtain ⟨f, HGO⟩ : ∃ f, Hid ((partP ls).2.2.length ≤ f ∧ R = if begP x = false then (zPol, (i : Int), 2) else if (ptcP (partP ls).1).2.2 ≠ 0 then (zPol, (i : Int) + max (ptcP (partP ls).1).2.1 1 - 1, (ptcP (partP ls).1).2.2) else ph2 f (i + (partP ls).2.1) rs (ps ++ [(ptcP (partP ls).1).1]) (partP ls).2.2) := by
          obtain ⟨f, hf, hR⟩ := HM.out.go
          rw [HLS.out] at hf hR
          obtain ⟨f, rfl⟩ : ∃ f', f = f' + 1 := ⟨f - 1, by omega⟩
          refine ⟨f, by have := HPL.out.1; omega, ?_⟩
          subst hxy
          rw [hR]
          rfl
        clear h1 h3 hxy
        go_wp2_with fail
        refine (HCT.out _).mono ?_
        rintro e w2 ⟨rfl, rfl⟩
        go_wp2_with fail
        refine (HC.out _ hin.bel).mono ?_
        rintro e w3 ⟨rfl, hb3⟩
        have hin3 := hin.mono hb3
        clear hin
        go_wp2_with fail
        refine (HBG.out _ hin3.bel).mono ?_
        rintro e w4 ⟨rfl, hb4⟩
        have hin4 := hin3.mono hb4
        clear hin3
        cases hbg : begP x with
        | false =>
          have HB : Hid (R = (zPol, (i : Int), 2)) := by show _ = _; rw [HGO.out.2, if_pos hbg]
          obtain ⟨A0, n0, c0, A1, n1, c1, rr, pp, hy⟩ := hin4
          have q0 := hy.br.cell 0 rfl
          have q1 := hy.br.cell 1 rfl
          have qf := fun i => hy.br.free i
          have ql := hy.br.lt
          have hbel := hy.bel
          obtain ⟨hbz, hgz⟩ := hy.br.store2 (.slice none 0 0) (.slice none 0 0)
          have hbwz := hbel.grown hgz hbel.size (fun k hk => by injection hk with hk; omega)
          have y0 := hbz.cell 0 rfl
          have y1 := hbz.cell 1 rfl
          go_wp2_with fail
          refine bodyPost_ret (v := .tuple #[.agg #[.slice none 0 0, .slice none 0 0], .int .i64 (i : Int), .int .i64 2]) (by simp [results, Tryz.results15, go_sem, y0, y1]) rfl ⟨?_, hbwz⟩
          rw [HB.out]
          exact retPol_bad
        | true =>
          have HGO2 : Hid (R = if (ptcP (partP ls).1).2.2 ≠ 0 then (zPol, (i : Int) + max (ptcP (partP ls).1).2.1 1 - 1, (ptcP (partP ls).1).2.2) else ph2 f (i + (partP ls).2.1) rs (ps ++ [(ptcP (partP ls).1).1]) (partP ls).2.2) := by show _ = _; rw [HGO.out.2, if_neg (by rw [hbg]; simp)]
          have HF := Lib.hid HGO.out.1
          clear HGO hbg
          go_wp2_with fail
          refine (HCP.out _ hin4.bel).mono ?_
          rintro e w5 ⟨⟨P, n, r, rfl, hpr, hPs, hrs, hn⟩, hb5⟩
          obtain ⟨k1, k2, k3⟩ := hpr.pieces HLS.out
          have HK1 := Lib.hid k1
          have HK3 := Lib.hid k3
          have hnl : n + (spl 10 (toL r)).length ≤ ls.length := by rw [k3, k2]; exact HPL.out.2.2
          have hrl2 : (spl 10 (toL r)).length + 1 ≤ ls.length := by rw [k3]; exact HPL.out.1
          have hn1 : 1 ≤ n := by rw [k2]; exact HN1.out
          rw [← k2] at HGO2
          have hin5 := hin4.mono hb5
          clear hin4 hpr k1 k2 k3
          have HPP := Lib.hid (fun W (hW : Below w.heap.size w W) => protParse_any P (partP ls).1 W (hg.mono hW) (by omega) HK1)
          have HAT := Lib.hid (ptcGo_at (partP ls).1 1 rd0)
          have HPK : Hid (OkPtc (ptcP (partP ls).1).1) := by
            refine ptcGo_ok (partP ls).1 1 rd0 ⟨Nat.zero_le _, by simp [rd0], by simp [rd0]⟩ (by simp [rd0]) ?_ ?_
            · rw [← HK1.out]
              have := spl_len 10 (toL P)
              rw [toL_len] at this
              simp [rd0]
              omega
            · intro z hz
              rw [← HK1.out] at hz
              have := spl_piece hz
              rw [toL_len] at this
              omega
          have hat2 : (ptcP (partP ls).1).2.1 ≤ 70000 := by
            have := HAT.out.2
            rw [← HK1.out] at this
            have h9 := spl_len 10 (toL P)
            rw [toL_len] at h9
            rw [← HK1.out]
            unfold ptcP
            omega
          have hat1 : 0 ≤ (ptcP (partP ls).1).2.1 := HAT.out.1
          go_wp2_with fail
          refine (HPP.out _ hin5.bel).mono ?_
          rintro e w6 ⟨hret, hb6⟩
          clear HAT HPP
          generalize ptcP (partP ls).1 = pq at *
          obtain ⟨⟨qc, qst, qs, qe, qm⟩, at1, er⟩ := pq
          obtain ⟨B1, m1, d1, B4, m4, d4, rfl, hos, hom⟩ := hret
          simp only at HGO2 HPK hat1 hat2 hos hom ⊢
          have hsz5 : w.heap.size + 2 ≤ w5.heap.size := by
            obtain ⟨_, _, _, _, _, _, _, _, hy⟩ := hin5
            exact hy.bp.lt
          obtain ⟨A0, n0, c0, A1, n1, c1, rr, pp, hy⟩ := hin5.mono hb6
          clear hin5
          have hy7 := hy.mono (show Below w6.heap.size w6 (w6.alloc (.cells #[.string qc, .slice B1 m1 d1, .int .i64 qs, .int .i64 qe, .slice B4 m4 d4] 63)) from bw_alloc (Below.refl _ _))
          have hpa : PtcAt w6 (w.heap.size + 2) ⟨qc, B1, m1, d1, qs, qe, B4, m4, d4⟩ ⟨qc, qst, qs, qe, qm⟩ := ⟨rfl, rfl, rfl, hos.base_le' hsz5, hom.base_le' hsz5⟩
          have hpa7 := hpa.mono (show Below w6.heap.size w6 (w6.alloc (.cells #[.string qc, .slice B1 m1 d1, .int .i64 qs, .int .i64 qe, .slice B4 m4 d4] 63)) from bw_alloc (Below.refl _ _))
          have bq7 := Box.new w6 [.string qc, .slice B1 m1 d1, .int .i64 qs, .int .i64 qe, .slice B4 m4 d4] 63
          go_upto_region 19 with fail
          generalize World.alloc w6 _ = w7 at *
          by_cases her : er = 0
          case neg =>
            have HB : Hid (R = (zPol, (i : Int) + max at1 1 - 1, er)) := by show _ = _; rw [HGO2.out, if_pos her]
            have ter : (er != 0) = true := by simpa using her
            clear her hy
            have hy := hy7
            clear hy7
            have q0 := hy.br.cell 0 rfl
            have q1 := hy.br.cell 1 rfl
            have qf := fun i => hy.br.free i
            have ql := hy.br.lt
            have hbel := hy.bel
            obtain ⟨hbz, hgz⟩ := hy.br.store2 (.slice none 0 0) (.slice none 0 0)
            have hbwz := hbel.grown hgz hbel.size (fun k hk => by injection hk with hk; omega)
            have y0 := hbz.cell 0 rfl
            have y1 := hbz.cell 1 rfl
            go_wp2_with fail
            refine bodyPost_ret (v := .tuple #[.agg #[.slice none 0 0, .slice none 0 0], .int .i64 ((i : Int) + max at1 1 - 1), .int .i64 er]) (by simp [results, Tryz.results15, go_sem, y0, y1]) rfl ⟨?_, hbwz⟩
            rw [HB.out]
            exact retPol_bad
          subst her
          obtain ⟨A', n', c', w8, hrun, hbp8, hy8⟩ := hy7.pushP hpa7 (by omega)
          unfold cellsRPtc at hrun
          have p1 := hy7.bp.cell 1 rfl
          have pl := hy7.bp.lt
          have b0 := bq7.cell 0 rfl
          have b1 := bq7.cell 1 rfl
          have b2 := bq7.cell 2 rfl
          have b3 := bq7.cell 3 rfl
          have b4 := bq7.cell 4 rfl
          have bl := bq7.lt
          have z1 := hbp8.cell 1 rfl
          have zf := fun i => hbp8.free i
          have zl := hbp8.lt
          go_wp2_with (at_builtin; refine wpList_appendRun rfl (.tmp 93) (.tmp 95) 23 rfl rfl rfl hrun ?_)
          have HM2 : Hid (Mid R r (i + n) rs (ps ++ [⟨qc, qst, qs, qe, qm⟩])) := ⟨⟨f, by rw [HK3.out]; exact HF.out, by rw [HK3.out, HGO2.out, if_neg (by simp)]⟩, HM.out.okr, fun z hz => by
            rcases List.mem_append.1 hz with hz | hz
            · exact HM.out.okp z hz
            · simp at hz; subst hz; exact HPK.out⟩
          have HMS : Hid ((spl 10 (toL r)).length < (spl 10 (toL t)).length) := by show _ < _; rw [HLS.out]; omega
          go_roundw
          case rel => exact ⟨r, i + n, _, rfl, by go_num, by omega, by omega, by rw [List.length_append]; simp; omega, HM2, ⟨_, _, _, _, _, _, _, _, hy8⟩⟩
          case measure => exact HMS.out
      · have hl1 := List.length_pos_iff.2 (spl_ne 10 (toL t))
        obtain ⟨x, hx⟩ : ∃ x, spl 10 (toL t) = [x] := by
          match hq : spl 10 (toL t), hl1, h2 with
          | [x], _, _ => exact ⟨x, rfl⟩
          | x :: y :: tl, _, h2 => simp at h2
        have HXT := Lib.hid (cut_last hx).1
        have HCT : Hid (∀ W, Calls Tryz.prog 45 #[.string t, .string ⟨#[10]⟩] W fun e w' => e = .returned (.bool false) ∧ W = w') := fun W => by
          have h := containsOne 10 t W
          rw [decide_eq_false (fun hm => h2 (mem_spl.1 hm))] at h
          exact h
        have HGO : Hid (R = if toL t ≠ [] then (zPol, (i : Int), 2) else if (polE ⟨rs, ps⟩).2 ≠ 0 then (zPol, 0, (polE ⟨rs, ps⟩).2) else (⟨rs, ps⟩, 0, 0)) := by
          obtain ⟨f, hf, hR⟩ := HM.out.go
          rw [hx] at hf hR
          obtain ⟨f, rfl⟩ : ∃ f', f = f' + 1 := ⟨f - 1, by simp at hf; omega⟩
          show _ = _
          rw [hR, ph2, HXT.out]
        clear hx HXT hl1 h2
        obtain ⟨A0, n0, c0, A1, n1, c1, rr, pp, hy⟩ := hin
        cases hte : t.toList.isEmpty with
        | false =>
          have hne : t.toList ≠ [] := fun h => by rw [h] at hte; simp at hte
          have hne2 : (t.toList != ([] : List UInt8)) = true := by simpa using hne
          have HB : Hid (R = (zPol, (i : Int), 2)) := by show _ = _; rw [HGO.out, if_pos (by rw [← ByteArray.toList_eq' t]; exact hne)]
          go_wp2_with fail
          refine (HCT.out _).mono ?_
          rintro e w2 ⟨rfl, rfl⟩
          have q0 := hy.br.cell 0 rfl
          have q1 := hy.br.cell 1 rfl
          have qf := fun i => hy.br.free i
          have ql := hy.br.lt
          have hbel := hy.bel
          obtain ⟨hbz, hgz⟩ := hy.br.store2 (.slice none 0 0) (.slice none 0 0)
          have hbwz := hbel.grown hgz hbel.size (fun k hk => by injection hk with hk; omega)
          have y0 := hbz.cell 0 rfl
          have y1 := hbz.cell 1 rfl
          go_wp2_with fail
          refine bodyPost_ret (v := .tuple #[.agg #[.slice none 0 0, .slice none 0 0], .int .i64 (i : Int), .int .i64 2]) (by simp [results, Tryz.results15, go_sem, y0, y1]) rfl ⟨?_, hbwz⟩
          rw [HB.out]
          exact retPol_bad
        | true =>
          have hte2 : t.toList = [] := List.isEmpty_iff.1 hte
          have HGO2 : Hid (R = if (polE ⟨rs, ps⟩).2 ≠ 0 then (zPol, 0, (polE ⟨rs, ps⟩).2) else (⟨rs, ps⟩, 0, 0)) := by show _ = _; rw [HGO.out, if_neg (by rw [← ByteArray.toList_eq' t, hte2]; simp)]
          have HTE := Lib.hid hte2
          clear HGO hte2
          have hne2 : (t.toList != ([] : List UInt8)) = false := by rw [HTE.out]; rfl
          obtain ⟨A0', c0', hv0, hc0, hs0⟩ := hy.or.slR (M := Lay.rul) cellsRRul_ok rfl hy.ar.len (fun i x y hx hy' => (hy.ar.each i x y hx hy').rep)
          injection hv0 with z1 z2 z3
          subst z1 z2 z3
          obtain ⟨A1', c1', hv1, hc1, hs1⟩ := hy.op.slR (M := Lay.ptc) cellsRPtc_ok rfl hy.ap.len (fun i x y hx hy' => (hy.ap.each i x y hx hy').rep)
          injection hv1 with z1 z2 z3
          subst z1 z2 z3
          have HCK : Hid (∀ W, Below wr.heap.size wr W → Calls Tryz.prog 10 #[.agg #[.slice A0 rs.length c0, .slice A1 ps.length c1]] W fun e w' => e = .returned (.tuple #[.int .i64 (polE ⟨rs, ps⟩).1, .int .i64 (polE ⟨rs, ps⟩).2]) ∧ Below W.heap.size W w') := fun W hW => polCheck_any ⟨rs, ps⟩ A0 A1 c0 c1 W (Lib.hid ⟨by show rs.length ≤ _; omega, by show ps.length ≤ _; omega, HM.out.okr, HM.out.okp⟩) (hg.mono (below_step hy.bel hW)).kw hc1 (hs0.mono hW) (hs1.mono hW)
          generalize polE ⟨rs, ps⟩ = pe at *
          obtain ⟨pe1, pe2⟩ := pe
          simp only at HCK HGO2
          have p0 := hy.bp.cell 0 rfl
          have p1 := hy.bp.cell 1 rfl
          have pl := hy.bp.lt
          go_wp2_with fail
          refine (HCT.out _).mono ?_
          rintro e w2 ⟨rfl, rfl⟩
          go_wp2_with fail
          refine (HCK.out _ (Below.refl _ _)).mono ?_
          rintro e w3 ⟨rfl, hb3⟩
          have hy3 := hy.mono hb3
          have hs03 := hs0.mono hb3
          have hs13 := hs1.mono hb3
          clear p0 p1 pl
          by_cases hpe : pe2 = 0
          case neg =>
            have HB : Hid (R = (zPol, 0, pe2)) := by show _ = _; rw [HGO2.out, if_pos hpe]
            have tpe : (pe2 != 0) = true := by simpa using hpe
            clear hpe hy hs0 hs1 hs03 hs13
            have hy := hy3
            have q0 := hy.br.cell 0 rfl
            have q1 := hy.br.cell 1 rfl
            have qf := fun i => hy.br.free i
            have ql := hy.br.lt
            have hbel := hy.bel
            obtain ⟨hbz, hgz⟩ := hy.br.store2 (.slice none 0 0) (.slice none 0 0)
            have hbwz := hbel.grown hgz hbel.size (fun k hk => by injection hk with hk; omega)
            have y0 := hbz.cell 0 rfl
            have y1 := hbz.cell 1 rfl
            go_wp2_with fail
            refine bodyPost_ret (v := .tuple #[.agg #[.slice none 0 0, .slice none 0 0], .int .i64 0, .int .i64 pe2]) (by simp [results, Tryz.results15, go_sem, y0, y1]) rfl ⟨?_, hbwz⟩
            rw [HB.out]
            exact retPol_bad
          subst hpe
          have HB : Hid (R = (⟨rs, ps⟩, 0, 0)) := by show _ = _; rw [HGO2.out, if_neg (by simp)]
          have p0 := hy3.bp.cell 0 rfl
          have p1 := hy3.bp.cell 1 rfl
          have pl := hy3.bp.lt
          have q0 := hy3.br.cell 0 rfl
          have q1 := hy3.br.cell 1 rfl
          have qf := fun i => hy3.br.free i
          have ql := hy3.br.lt
          have hbel := hy3.bel
          obtain ⟨hbz, hgz⟩ := hy3.br.store2 (.slice A0 rs.length c0) (.slice A1 ps.length c1)
          have hbwz := hbel.grown hgz hbel.size (fun k hk => by injection hk with hk; omega)
          have kB := hy3.br.rowTyK
          have horz := hy3.or.keptK kB (by decide) hgz
          have hopz := hy3.op.keptK kB (by decide) hgz
          have harz := hy3.ar.imp (fun a b k => k.keptK kB (by decide) hgz)
          have hapz := hy3.ap.imp (fun a b k => k.keptK kB (by decide) (by decide) hgz)
          have y0 := hbz.cell 0 rfl
          have y1 := hbz.cell 1 rfl
          go_wp2_with fail
          refine bodyPost_ret (v := .tuple #[.agg #[.slice A0 rs.length c0, .slice A1 ps.length c1], .int .i64 0, .int .i64 0]) (by simp [results, Tryz.results15, go_sem, y0, y1]) rfl ⟨?_, hbwz⟩
          rw [HB.out]
          obtain ⟨A0', c0', hv0, hc0', hs0'⟩ := horz.slR (M := Lay.rul) cellsRRul_ok rfl harz.len (fun i x y hx hy' => (harz.each i x y hx hy').rep)
          injection hv0 with z1 z2 z3
          subst z1 z3
          obtain ⟨A1', c1', hv1, hc1', hs1'⟩ := hopz.slR (M := Lay.ptc) cellsRPtc_ok rfl hapz.len (fun i x y hx hy' => (hapz.each i x y hx hy').rep)
          injection hv1 with z1 z2 z3
          subst z1 z3
          exact ⟨A0, c0, A1, c1, rfl, hc0', hs0', hc1', hs1'⟩
end Go.Proofs.YthabojhnliomnaaGreatDoor
