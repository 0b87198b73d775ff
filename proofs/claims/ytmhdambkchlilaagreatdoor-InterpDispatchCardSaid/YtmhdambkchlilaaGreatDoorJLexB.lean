/- Identifiers, exactly, in the program and in the reference. -/
import Derived.Test.YtmhdambkchlilaaGreatDoorJLexA
import Derived.Test.YtmhdambkchlilaaGreatDoorJGb
import Derived.Test.YtmhdambkchlilaaGreatDoorJGa
namespace Go.Proofs.YtmhdambkchlilaaGreatDoor
open Go.RowKit
set_option linter.unusedVariables false
set_option maxRecDepth 100000
set_option maxHeartbeats 1000000
def partU (c : UInt8) : Bool := partB c.toNat
def kwB (s : ByteArray) : Bool := kwL.any fun k => s.toList == k.toList
def identB (s : ByteArray) : Bool := decide (0 < s.size) && decide (s.size ≤ 32) && letterB (s.data.getD 0 0).toNat && (toL s).all partU && !kwB s
theorem all_at {s : ByteArray} {f : UInt8 → Bool} : (toL s).all f = true ↔ ∀ i (h : i < s.size),f s[i] = true := by
 unfold toL
 rw [List.all_eq_true]
 constructor
 ·intro H i h
  exact H _ (by simp [ByteArray.getElem_eq_getElem_data])
 ·intro H x hx
  obtain ⟨i,hi,rfl⟩ := List.getElem_of_mem hx
  have := H i (by simpa using hi)
  simpa [ByteArray.getElem_eq_getElem_data] using this
theorem empty_iff {s : ByteArray} : (s.toList == ([] : List UInt8)) = decide (s.size = 0) := by
 rw [ByteArray.toList_eq]
 rcases s with ⟨d⟩
 rcases d with ⟨l⟩
 cases l <;> simp [ByteArray.size]
def SpanR (s : ByteArray) (w : World) (e : Ending) (w' : World) : Prop := ∃ b : Bool,∃ n : Int,e = .returned (.int .i64 n) ∧ w = w' ∧ (n == (s.size : Int)) = b ∧ b = (toL s).all partU
theorem span_any (s : ByteArray) (w : World) (hs : s.size ≤ 9223372036854775807) : Calls Tryz.prog 286 #[.string s,.func (.func 287) #[] #[]] w (SpanR s w) := by
 go_enter Tryz.func286,Tryz.ntmps286
 go_wp2_with fail
 go_loop [5] (fun i => ∃ k : Nat,k ≤ s.size ∧ i = .int .i64 k ∧ Hid (∀ i (h : i < s.size),i < k → partU s[i] = true)) (fun i => s.size - (intOf i).toNat)
 case atStart => exact ⟨0,Nat.zero_le _,rfl,fun i h hi => by omega⟩
 case round =>
  obtain ⟨k,hk,rfl,HN⟩ := hrel
  by_cases hlt : k < s.size
  ·go_wp2_with fail
   refine (part_any _ _).mono ?_
   rintro e w1 ⟨rfl,rfl⟩
   cases hp : partB s[k].toNat with
   | true =>
    have HE : Hid (∀ i (h : i < s.size),i < k + 1 → partU s[i] = true) := fun i h hi => by
     by_cases e : i = k
     ·subst e; exact hp
     ·exact HN.out i h (by omega)
    go_wp2_with fail
    go_round
    case rel => exact ⟨k + 1,by omega,by go_num,HE⟩
    case measure => simp [intOf]; omega
   | false =>
    go_wp2_with fail
    go_ret
    refine ⟨false,_,rfl,rfl,by simp; omega,?_⟩
    cases ha : (toL s).all partU with
    | false => rfl
    | true => have := all_at.1 ha k hlt; unfold partU at this; rw [hp] at this; cases this
  ·go_wp2_with fail
   go_ret
   refine ⟨true,_,rfl,rfl,by simp; omega,?_⟩
   exact (all_at.2 fun i h => HN.out i h (by omega)).symm
def KwX (w : World) : Prop := ∀ i (h : i < kwL.length),w.cell? ⟨2,i,none⟩ = some (.string kwL[i])
theorem KwX.lt {w : World} (h : KwX w) : 2 < w.heap.size := by
 have hk := h 0 (by decide)
 unfold World.cell? at hk
 split at hk
 ·rename_i hh; exact (Array.getElem?_eq_some_iff.1 hh).1
 ·cases hk
theorem KwX.mono {w w' : World} (h : KwX w) (hb : Below w.heap.size w w') : KwX w' := fun i hi => by rw [hb.cell (p := ⟨_,i,none⟩) h.lt]; exact h i hi
def kwVal : Value := .agg #[.string ⟨#[99,108,97,115,115]⟩,.string ⟨#[101,120,116,101,110,100,115]⟩,.string ⟨#[118,97,114]⟩,.string ⟨#[100,101,102]⟩,.string ⟨#[115,116,97,116,105,99]⟩,.string ⟨#[105,102]⟩,.string ⟨#[101,108,115,101]⟩,.string ⟨#[119,104,105,108,101]⟩,.string ⟨#[116,114,121]⟩,.string ⟨#[99,97,116,99,104]⟩,.string ⟨#[116,104,114,111,119]⟩,.string ⟨#[114,101,116,117,114,110]⟩,.string ⟨#[110,101,119]⟩,.string ⟨#[110,117,108,108]⟩,.string ⟨#[116,104,105,115]⟩,.string ⟨#[105,110,112,117,116]⟩,.string ⟨#[105,110,116]⟩]
theorem kwX_index' (i : Nat) (hi : i < 17) (w : World) : (Instr.index 272 kwVal (.int .i64 (i : Int))).run Tryz.prog w = .ok (.string (kwL.getD i ⟨#[]⟩)) w :=
 match i,hi with
 | 0,_ => by kernel_rfl
 | 1,_ => by kernel_rfl
 | 2,_ => by kernel_rfl
 | 3,_ => by kernel_rfl
 | 4,_ => by kernel_rfl
 | 5,_ => by kernel_rfl
 | 6,_ => by kernel_rfl
 | 7,_ => by kernel_rfl
 | 8,_ => by kernel_rfl
 | 9,_ => by kernel_rfl
 | 10,_ => by kernel_rfl
 | 11,_ => by kernel_rfl
 | 12,_ => by kernel_rfl
 | 13,_ => by kernel_rfl
 | 14,_ => by kernel_rfl
 | 15,_ => by kernel_rfl
 | 16,_ => by kernel_rfl
 | n + 17,h => absurd h (by omega)
theorem kwX_index (i : Nat) (hi : i < kwL.length) (w : World) : (Instr.index 272 kwVal (.int .i64 (i : Int))).run Tryz.prog w = .ok (.string kwL[i]) w := by
 rw [kwX_index' i hi w,List.getD_eq_getElem?_getD,List.getElem?_eq_getElem hi]
 rfl
theorem any_no {s : ByteArray} {k : Nat} (h : ∀ i (h : i < kwL.length),i < k → (s.toList == kwL[i].toList) = false) (hk : kwL.length ≤ k) : kwB s = false := by
 unfold kwB
 rw [List.any_eq_false]
 intro x hx
 obtain ⟨i,hi,rfl⟩ := List.getElem_of_mem hx
 rw [h i hi (by omega)]
 simp
theorem any_yes {s : ByteArray} {k : Nat} (hk : k < kwL.length) (h : (s.toList == kwL[k].toList) = true) : kwB s = true := by
 unfold kwB
 rw [List.any_eq_true]
 exact ⟨kwL[k],List.getElem_mem hk,h⟩
theorem keyword_any (s : ByteArray) (w : World) (hk : KwX w) : Calls Tryz.prog 288 #[.string s] w fun e w' => e = .returned (.bool (kwB s)) ∧ w = w' := by
 have c0 := hk 0 (by decide)
 have c1 := hk 1 (by decide)
 have c2 := hk 2 (by decide)
 have c3 := hk 3 (by decide)
 have c4 := hk 4 (by decide)
 have c5 := hk 5 (by decide)
 have c6 := hk 6 (by decide)
 have c7 := hk 7 (by decide)
 have c8 := hk 8 (by decide)
 have c9 := hk 9 (by decide)
 have c10 := hk 10 (by decide)
 have c11 := hk 11 (by decide)
 have c12 := hk 12 (by decide)
 have c13 := hk 13 (by decide)
 have c14 := hk 14 (by decide)
 have c15 := hk 15 (by decide)
 have c16 := hk 16 (by decide)
 simp only [kwL,List.getElem_cons_zero] at c0
 simp only [kwL,List.getElem_cons_zero,List.getElem_cons_succ] at c1
 simp only [kwL,List.getElem_cons_zero,List.getElem_cons_succ] at c2
 simp only [kwL,List.getElem_cons_zero,List.getElem_cons_succ] at c3
 simp only [kwL,List.getElem_cons_zero,List.getElem_cons_succ] at c4
 simp only [kwL,List.getElem_cons_zero,List.getElem_cons_succ] at c5
 simp only [kwL,List.getElem_cons_zero,List.getElem_cons_succ] at c6
 simp only [kwL,List.getElem_cons_zero,List.getElem_cons_succ] at c7
 simp only [kwL,List.getElem_cons_zero,List.getElem_cons_succ] at c8
 simp only [kwL,List.getElem_cons_zero,List.getElem_cons_succ] at c9
 simp only [kwL,List.getElem_cons_zero,List.getElem_cons_succ] at c10
 simp only [kwL,List.getElem_cons_zero,List.getElem_cons_succ] at c11
 simp only [kwL,List.getElem_cons_zero,List.getElem_cons_succ] at c12
 simp only [kwL,List.getElem_cons_zero,List.getElem_cons_succ] at c13
 simp only [kwL,List.getElem_cons_zero,List.getElem_cons_succ] at c14
 simp only [kwL,List.getElem_cons_zero,List.getElem_cons_succ] at c15
 simp only [kwL,List.getElem_cons_zero,List.getElem_cons_succ] at c16
 have hlt := hk.lt
 have HIX := Lib.hid (fun i hi => kwX_index i hi w)
 unfold kwVal at HIX
 clear hk
 obtain ⟨r,HR⟩ : ∃ r,Hid (r = kwB s) := ⟨_,Lib.hid rfl⟩
 rw [← HR.out]
 go_enter Tryz.func288,Tryz.ntmps288
 go_wp2_with fail
 clear c0 c1 c2 c3 c4 c5 c6 c7 c8 c9 c10 c11 c12 c13 c14 c15 c16
 go_loop [6] (fun i => ∃ k : Nat,k ≤ 17 ∧ i = .int .i64 k ∧ Hid (∀ i (h : i < kwL.length),i < k → (s.toList == kwL[i].toList) = false)) (fun i => 17 - (intOf i).toNat)
 case atStart => exact ⟨0,Nat.zero_le _,rfl,fun i h hi => by omega⟩
 case round =>
  obtain ⟨k,hk,rfl,HN⟩ := hrel
  by_cases hlt : k < 17
  ·have hkl : k < kwL.length := hlt
   have hx := HIX.out k hkl
   obtain ⟨y,HY⟩ : ∃ y,Hid (y = kwL[k]) := ⟨_,Lib.hid rfl⟩
   rw [← HY.out] at hx
   cases hq : (s.toList == y.toList) with
   | true =>
    have HB : Hid (r = true) := by show _ = _; rw [HR.out]; exact any_yes hkl (by rw [← HY.out]; exact hq)
    go_wp2_with fail
    go_ret
    exact ⟨by rw [HB.out]; rfl,rfl⟩
   | false =>
    have HE : Hid (∀ i (h : i < kwL.length),i < k + 1 → (s.toList == kwL[i].toList) = false) := fun i h hi => by
     by_cases e : i = k
     ·subst e; rw [← HY.out]; exact hq
     ·exact HN.out i h (by omega)
    go_wp2_with fail
    go_round
    case rel => exact ⟨k + 1,by omega,by go_num,HE⟩
    case measure => simp [intOf]; omega
  ·have HB : Hid (r = false) := by show _ = _; rw [HR.out]; exact any_no HN.out (show 17 ≤ k by omega)
   go_wp2_with fail
   go_ret
   exact ⟨by rw [HB.out]; rfl,rfl⟩
theorem ident_any (s : ByteArray) (w : World) (hs : s.size ≤ 9223372036854775807) (hk : KwX w) : Calls Tryz.prog 224 #[.string s] w fun e w' => e = .returned (.bool (identB s)) ∧ w = w' := by
 obtain ⟨r,HR⟩ : ∃ r,Hid (r = identB s) := ⟨_,Lib.hid rfl⟩
 rw [← HR.out]
 by_cases h0 : s.size = 0
 ·have HB : Hid (r = false) := by show _ = _; rw [HR.out]; unfold identB; simp [h0]
  have t0 : (s.toList == ([] : List UInt8)) = true := by rw [empty_iff,h0]; rfl
  have t1 : s.toList.isEmpty = true := by simpa using t0
  go_enter Tryz.func224,Tryz.ntmps224
  go_wp2_with fail
  go_ret
  exact ⟨by rw [HB.out]; rfl,rfl⟩
 have t0 : (s.toList == ([] : List UInt8)) = false := by rw [empty_iff]; exact decide_eq_false h0
 have t1 : s.toList.isEmpty = false := by
  cases h : s.toList.isEmpty with
  | false => rfl
  | true => rw [List.isEmpty_iff] at h; rw [h] at t0; cases t0
 have hsz : 0 < s.size := by omega
 by_cases h32 : 32 < s.size
 ·have HB : Hid (r = false) := by show _ = _; rw [HR.out]; unfold identB; rw [decide_eq_false (show ¬ s.size ≤ 32 by omega)]; simp
  go_enter Tryz.func224,Tryz.ntmps224
  go_wp2_with fail
  go_ret
  exact ⟨by rw [HB.out]; rfl,rfl⟩
 have HF : Hid (s.data.getD 0 0 = s[0]) := by show _ = _; unfold Array.getD; rw [dif_pos (show 0 < s.data.size from hsz)]; rfl
 have h32' : s.size ≤ 32 := by omega
 go_enter Tryz.func224,Tryz.ntmps224
 go_wp2_with fail
 refine (letter_any _ _).mono ?_
 rintro e w1 ⟨rfl,rfl⟩
 cases hl : letterB (s[0].toNat) with
 | false =>
  have HB : Hid (r = false) := by show _ = _; rw [HR.out]; unfold identB; rw [HF.out,hl]; simp
  go_wp2_with fail
  go_ret
  exact ⟨by rw [HB.out]; rfl,rfl⟩
 | true =>
  go_wp2_with fail
  refine (span_any s _ hs).mono ?_
  rintro e w1 ⟨b,n,rfl,rfl,hb,ha⟩
  cases b with
  | false =>
   have HB : Hid (r = false) := by show _ = _; rw [HR.out]; unfold identB; rw [← ha]; simp
   clear ha
   go_wp2_with fail
   go_ret
   exact ⟨by rw [HB.out]; rfl,rfl⟩
  | true =>
   have HB : Hid (r = !kwB s) := by show _ = _; rw [HR.out]; unfold identB; rw [HF.out,hl,← ha,decide_eq_true hsz,decide_eq_true h32']; simp
   clear ha
   go_wp2_with fail
   refine (keyword_any s _ hk).mono ?_
   rintro e w1 ⟨rfl,rfl⟩
   go_wp2_with fail
   go_ret
   exact ⟨by rw [HB.out]; rfl,rfl⟩
theorem refLetter_any (c : Int) (w : World) : Calls Tryz.prog 303 #[.int .u8 c] w fun e w' => e = .returned (.bool (letterB c)) ∧ w = w' := by
 obtain ⟨r,HR⟩ : ∃ r,Hid (r = letterB c) := ⟨_,Lib.hid rfl⟩
 rw [← HR.out]
 go_enter Tryz.func303,Tryz.ntmps303
 go_wp2_with fail
 all_goals (go_ret; refine ⟨?_,rfl⟩; rw [HR.out]; congr 2; unfold letterB; simp [*])
 all_goals omega
theorem refDigit_any (c : Int) (w : World) : Calls Tryz.prog 331 #[.int .u8 c] w fun e w' => e = .returned (.bool (digitB c)) ∧ w = w' := by
 obtain ⟨r,HR⟩ : ∃ r,Hid (r = digitB c) := ⟨_,Lib.hid rfl⟩
 rw [← HR.out]
 go_enter Tryz.func331,Tryz.ntmps331
 go_wp2_with fail
 all_goals (go_ret; refine ⟨?_,rfl⟩; rw [HR.out]; congr 2; unfold digitB; simp [*])
 all_goals omega
theorem refPart_any (c : Int) (w : World) : Calls Tryz.prog 305 #[.int .u8 c] w fun e w' => e = .returned (.bool (partB c)) ∧ w = w' := by
 have e : partB c = (letterB c || digitB c || c == 95) := rfl
 rw [e]
 clear e
 go_enter Tryz.func305,Tryz.ntmps305
 go_wp2_with fail
 refine (refLetter_any c _).mono ?_
 rintro e w1 ⟨rfl,rfl⟩
 cases hq : letterB c with
 | true =>
  go_wp2_with fail
  go_ret
  exact ⟨by rw [hq]; rfl,rfl⟩
 | false =>
  go_wp2_with fail
  refine (refDigit_any c _).mono ?_
  rintro e w1 ⟨rfl,rfl⟩
  cases hq2 : digitB c with
  | true =>
   go_wp2_with fail
   go_ret
   exact ⟨by rw [hq,hq2]; rfl,rfl⟩
  | false =>
   go_wp2_with fail
   go_ret
   exact ⟨by rw [hq,hq2]; rfl,rfl⟩
def kwCells : List Value := [.string ⟨#[99,108,97,115,115]⟩,.string ⟨#[101,120,116,101,110,100,115]⟩,.string ⟨#[118,97,114]⟩,.string ⟨#[100,101,102]⟩,.string ⟨#[115,116,97,116,105,99]⟩,.string ⟨#[105,102]⟩,.string ⟨#[101,108,115,101]⟩,.string ⟨#[119,104,105,108,101]⟩,.string ⟨#[116,114,121]⟩,.string ⟨#[99,97,116,99,104]⟩,.string ⟨#[116,104,114,111,119]⟩,.string ⟨#[114,101,116,117,114,110]⟩,.string ⟨#[110,101,119]⟩,.string ⟨#[110,117,108,108]⟩,.string ⟨#[116,104,105,115]⟩,.string ⟨#[105,110,112,117,116]⟩,.string ⟨#[105,110,116]⟩]
theorem kwCells_at (i : Nat) (hi : i < kwL.length) : kwCells[i]? = some (.string kwL[i]) := by
 have h : kwCells = kwL.map Value.string := rfl
 rw [h,List.getElem?_map,List.getElem?_eq_getElem hi]
 rfl
theorem refKeyword_any (s : ByteArray) (w : World) : Calls Tryz.prog 304 #[.string s] w fun e w' => e = .returned (.bool (kwB s)) ∧ Below w.heap.size w w' := by
 have bx := Box.new w kwCells 9
 have hbw : Below w.heap.size w (w.alloc (.cells kwCells.toArray 9)) := bw_alloc (Below.refl _ _)
 obtain ⟨r,HR⟩ : ∃ r,Hid (r = kwB s) := ⟨_,Lib.hid rfl⟩
 rw [← HR.out]
 have HBX := Lib.hid (fun i hi => bx.cell i (kwCells_at i hi))
 have bl := bx.lt
 clear bx
 unfold kwCells at HBX hbw bl
 go_enter Tryz.func304,Tryz.ntmps304
 go_wp2_with fail
 generalize hW : World.alloc _ _ = W at *
 go_loop [4] (fun i => ∃ k : Nat,k ≤ 17 ∧ i = .int .i64 k ∧ Hid (∀ i (h : i < kwL.length),i < k → (s.toList == kwL[i].toList) = false)) (fun i => 17 - (intOf i).toNat)
 case atStart => exact ⟨0,Nat.zero_le _,rfl,fun i h hi => by omega⟩
 case round =>
  obtain ⟨k,hk,rfl,HN⟩ := hrel
  by_cases hlt : k < 17
  ·have hkl : k < kwL.length := hlt
   have hx := HBX.out k hkl
   obtain ⟨y,HY⟩ : ∃ y,Hid (y = kwL[k]) := ⟨_,Lib.hid rfl⟩
   rw [← HY.out] at hx
   cases hq : (y.toList == s.toList) with
   | true =>
    have HB : Hid (r = true) := by show _ = _; rw [HR.out]; exact any_yes hkl (by rw [← HY.out,BEq.comm]; exact hq)
    go_wp2_with fail
    go_ret
    exact ⟨by rw [HB.out]; rfl,hbw⟩
   | false =>
    have HE : Hid (∀ i (h : i < kwL.length),i < k + 1 → (s.toList == kwL[i].toList) = false) := fun i h hi => by
     by_cases e : i = k
     ·subst e; rw [← HY.out,BEq.comm]; exact hq
     ·exact HN.out i h (by omega)
    go_wp2_with fail
    go_round
    case rel => exact ⟨k + 1,by omega,by go_num,HE⟩
    case measure => simp [intOf]; omega
  ·have HB : Hid (r = false) := by show _ = _; rw [HR.out]; exact any_no HN.out (show 17 ≤ k by omega)
   go_wp2_with fail
   go_ret
   exact ⟨by rw [HB.out]; rfl,hbw⟩
theorem refIdent_any (s : ByteArray) (w : World) (hs : s.size ≤ 9223372036854775807) : Calls Tryz.prog 265 #[.string s] w fun e w' => e = .returned (.bool (identB s)) ∧ Below w.heap.size w w' := by
 obtain ⟨r,HR⟩ : ∃ r,Hid (r = identB s) := ⟨_,Lib.hid rfl⟩
 rw [← HR.out]
 by_cases h0 : s.size = 0
 ·have HB : Hid (r = false) := by show _ = _; rw [HR.out]; unfold identB; simp [h0]
  have t0 : (s.toList == ([] : List UInt8)) = true := by rw [empty_iff,h0]; rfl
  have t1 : s.toList.isEmpty = true := by simpa using t0
  go_enter Tryz.func265,Tryz.ntmps265
  go_wp2_with fail
  go_ret
  exact ⟨by rw [HB.out]; rfl,Below.refl _ _⟩
 have t0 : (s.toList == ([] : List UInt8)) = false := by rw [empty_iff]; exact decide_eq_false h0
 have t1 : s.toList.isEmpty = false := by
  cases h : s.toList.isEmpty with
  | false => rfl
  | true => rw [List.isEmpty_iff] at h; rw [h] at t0; cases t0
 have hsz : 0 < s.size := by omega
 by_cases h32 : 32 < s.size
 ·have HB : Hid (r = false) := by show _ = _; rw [HR.out]; unfold identB; rw [decide_eq_false (show ¬ s.size ≤ 32 by omega)]; simp
  go_enter Tryz.func265,Tryz.ntmps265
  go_wp2_with fail
  go_ret
  exact ⟨by rw [HB.out]; rfl,Below.refl _ _⟩
 have HF : Hid (s.data.getD 0 0 = s[0]) := by show _ = _; unfold Array.getD; rw [dif_pos (show 0 < s.data.size from hsz)]; rfl
 have h32' : s.size ≤ 32 := by omega
 go_enter Tryz.func265,Tryz.ntmps265
 go_wp2_with fail
 refine (refLetter_any _ _).mono ?_
 rintro e w1 ⟨rfl,rfl⟩
 cases hl : letterB (s[0].toNat) with
 | false =>
  have HB : Hid (r = false) := by show _ = _; rw [HR.out]; unfold identB; rw [HF.out,hl]; simp
  go_wp2_with fail
  go_ret
  exact ⟨by rw [HB.out]; rfl,Below.refl _ _⟩
 | true =>
  go_wp2_with fail
  refine (refKeyword_any s _).mono ?_
  rintro e w1 ⟨rfl,hb1⟩
  cases hkw : kwB s with
  | true =>
   have HB : Hid (r = false) := by show _ = _; rw [HR.out]; unfold identB; rw [hkw]; simp
   clear hkw
   go_wp2_with fail
   go_ret
   exact ⟨by rw [HB.out]; rfl,hb1⟩
  | false =>
   have HB : Hid (r = (toL s).all partU) := by show _ = _; rw [HR.out]; unfold identB; rw [HF.out,hl,hkw,decide_eq_true hsz,decide_eq_true h32']; simp
   clear hkw
   go_wp2_with fail
   go_loop [3] (fun i => ∃ k : Nat,k ≤ s.size ∧ i = .int .i64 k ∧ Hid (∀ i (h : i < s.size),i < k → partU s[i] = true)) (fun i => s.size - (intOf i).toNat)
   case atStart => exact ⟨0,Nat.zero_le _,rfl,fun i h hi => by omega⟩
   case round =>
    obtain ⟨k,hk,rfl,HN⟩ := hrel
    by_cases hlt : k < s.size
    ·go_wp2_with fail
     refine (refPart_any _ _).mono ?_
     rintro e w2 ⟨rfl,rfl⟩
     cases hp : partB s[k].toNat with
     | true =>
      have HE : Hid (∀ i (h : i < s.size),i < k + 1 → partU s[i] = true) := fun i h hi => by
       by_cases e : i = k
       ·subst e; exact hp
       ·exact HN.out i h (by omega)
      go_wp2_with fail
      go_round
      case rel => exact ⟨k + 1,by omega,by go_num,HE⟩
      case measure => simp [intOf]; omega
     | false =>
      have HC : Hid (r = false) := by
       show _ = _
       rw [HB.out]
       cases ha : (toL s).all partU with
       | false => rfl
       | true => have := all_at.1 ha k hlt; unfold partU at this; rw [hp] at this; cases this
      go_wp2_with fail
      go_ret
      exact ⟨by rw [HC.out]; rfl,hb1⟩
    ·have HC : Hid (r = true) := by show _ = _; rw [HB.out]; exact all_at.2 fun i h => HN.out i h (by omega)
     go_wp2_with fail
     go_ret
     exact ⟨by rw [HC.out]; rfl,hb1⟩
end Go.Proofs.YtmhdambkchlilaaGreatDoor
