/-
  Chapter 10: searching a list of classes, fields or methods by a name.
-/
import Derived.Test.YthabojhnliomnaaGreatDoorHierTy
namespace Go.Proofs.YthabojhnliomnaaGreatDoor
open Go.RowKit
set_option linter.unusedVariables false

/-- The index of the first element of which p holds, or -1. -/
def idxI {α : Type} (p : α → Bool) (l : List α) : Int := match l.findIdx? p with
  | some i => i
  | none => -1
theorem findIdx?_at {α : Type} {p : α → Bool} {l : List α} {k : Nat} (hk : k < l.length) (hno : ∀ i (hi : i < k), p (l[i]'(by omega)) = false) (hy : p l[k] = true) : l.findIdx? p = some k := by
  rw [List.findIdx?_eq_some_iff_getElem]
  exact ⟨hk, hy, fun j hj => by simpa using hno j hj⟩
theorem idxI_at {α : Type} {p : α → Bool} {l : List α} {k : Nat} (hk : k < l.length) (hno : ∀ i (hi : i < k), p (l[i]'(by omega)) = false) (hy : p l[k] = true) : idxI p l = k := by
  unfold idxI; rw [findIdx?_at hk hno hy]
theorem idxI_none {α : Type} {p : α → Bool} {l : List α} (hno : ∀ i (hi : i < l.length), p l[i] = false) : idxI p l = -1 := by
  unfold idxI
  have : l.findIdx? p = none := by
    rw [List.findIdx?_eq_none_iff]
    intro x hx
    obtain ⟨i, hi, rfl⟩ := List.getElem_of_mem hx
    exact hno i hi
  rw [this]
theorem idxI_ge {α : Type} (p : α → Bool) (l : List α) : -1 ≤ idxI p l ∧ idxI p l < l.length := by
  unfold idxI
  cases h : l.findIdx? p with
  | none => simp; omega
  | some i =>
    have := (List.findIdx?_eq_some_iff_getElem.1 h).1
    simp; omega

/-! ### hier.Find, fieldIn, methodIn -/
def isCls (s : ByteArray) (x : Cls) : Bool := x.name.toList == s.toList
def isFld (s : ByteArray) (x : Fld) : Bool := x.name.toList == s.toList
def isSg (s : ByteArray) (x : Sg) : Bool := x.name.toList == s.toList
theorem findLit_any (B : Nat) (x : Cls) (A2 A3 : Option Addr) (c2 c3 : Nat) (s : ByteArray) (w : World) (hB : B < w.heap.size) (hc : w.cell? ⟨B, 0, none⟩ = some (.string s)) :
    Calls Tryz.prog 109 #[.agg #[.string x.name, .string x.super, .slice A2 x.fields.length c2, .slice A3 x.methods.length c3], .pointer (some ⟨B, 0, none⟩)] w fun e w' => e = .returned (.bool (isCls s x)) ∧ Below w.heap.size w w' := by
  go_enter Tryz.func109, Tryz.ntmps109
  go_wp2_with fail
  go_ret
  exact ⟨rfl, bw_alloc (Below.refl _ _)⟩

set_option maxHeartbeats 1000000 in
theorem findIdx_any (A : Option Addr) (c B : Nat) (l : List Cls) (s : ByteArray) (w : World) (hl : l.length ≤ 9223372036854775807) (hs : Sl Lay.cls w A l) (hB : B < w.heap.size) (hc : w.cell? ⟨B, 0, none⟩ = some (.string s)) :
    Calls Tryz.prog 108 #[.slice A l.length c, .func (.func 109) #[] #[.pointer (some ⟨B, 0, none⟩)]] w fun e w' => e = .returned (.int .i64 (idxI (isCls s) l)) ∧ Below w.heap.size w w' := by
  go_enter Tryz.func108, Tryz.ntmps108
  go_wp2_with fail
  go_loopw [5, 8] (fun j i wr => ∃ k : Nat, k ≤ l.length ∧ i = .int .i64 k ∧ Hid (∀ i (hi : i < k) (hi2 : i < l.length), isCls s l[i] = false) ∧ Below w.heap.size w wr) (fun _ i _ => l.length - (intOf i).toNat)
  case atStart => exact ⟨0, Nat.zero_le _, rfl, fun i hi => by omega, Below.refl _ _⟩
  case round =>
    obtain ⟨k, hk, rfl, HN, hbw⟩ := hrel
    by_cases hlt : k < l.length
    · obtain ⟨b, o, A2, c2, A3, c3, rfl, hb, d0, d1, d2, d3, hc2, hs2, hc3, hs3⟩ := (hs.mono hbw).cls_at hlt
      go_wp2_with fail
      refine (findLit_any B l[k] A2 A3 c2 c3 s _ (Nat.lt_of_lt_of_le hB hbw.size) (by rw [hbw.cell hB]; exact hc)).mono ?_
      rintro e w1 ⟨rfl, hb1⟩
      cases hq : isCls s l[k] with
      | true =>
        have HE := Lib.hid (idxI_at hlt (fun i hi => HN.out i hi (by omega)) hq)
        clear hq
        go_wp2_with fail
        go_ret
        exact ⟨by rw [HE.out]; rfl, below_step hbw hb1⟩
      | false =>
        have HE : Hid (∀ i (hi : i < k + 1) (hi2 : i < l.length), isCls s l[i] = false) := fun i hi hi2 => by
          by_cases e : i = k
          · subst e; exact hq
          · exact HN.out i (by omega) hi2
        clear hq
        go_wp2_with fail
        go_roundw
        case rel => exact ⟨k + 1, by omega, by go_num, HE, below_step hbw hb1⟩
        case measure => simp [intOf]; omega
    · have HE := Lib.hid (idxI_none (p := isCls s) (l := l) (fun i hi => HN.out i (by omega) hi))
      go_wp2_with fail
      go_ret
      exact ⟨by rw [HE.out]; rfl, hbw⟩

theorem find_any (A : Option Addr) (c : Nat) (l : List Cls) (s : ByteArray) (w : World) (hl : l.length ≤ 9223372036854775807) (hs : Sl Lay.cls w A l) :
    Calls Tryz.prog 58 #[.agg #[.slice A l.length c], .string s] w fun e w' => e = .returned (.int .i64 (idxI (isCls s) l)) ∧ Below w.heap.size w w' := by
  go_enter Tryz.func58, Tryz.ntmps58
  go_wp2_with fail
  have hb0 : Below w.heap.size w ((w.alloc (.cells #[.slice A l.length c] 42)).alloc (.cells #[.string s] 9)) := bw_alloc (bw_alloc (Below.refl _ _))
  refine (findIdx_any A c (w.heap.size + 1) l s _ hl (hs.mono hb0) (by simp) (by simp)).mono ?_
  rintro e w1 ⟨rfl, hb1⟩
  go_wp2_with fail
  go_ret
  exact ⟨rfl, below_step hb0 hb1⟩
theorem methodLit_any (B : Nat) (x : Sg) (A2 : Option Addr) (c2 : Nat) (s : ByteArray) (w : World) (hB : B < w.heap.size) (hc : w.cell? ⟨B, 0, none⟩ = some (.string s)) :
    Calls Tryz.prog 190 #[.agg #[.string x.name, .bool x.static, .slice A2 x.params.length c2, .string x.result], .pointer (some ⟨B, 0, none⟩)] w fun e w' => e = .returned (.bool (isSg s x)) ∧ Below w.heap.size w w' := by
  go_enter Tryz.func190, Tryz.ntmps190
  go_wp2_with fail
  go_ret
  exact ⟨rfl, bw_alloc (Below.refl _ _)⟩

set_option maxHeartbeats 1000000 in
theorem methodIdx_any (A : Option Addr) (c B : Nat) (l : List Sg) (s : ByteArray) (w : World) (hl : l.length ≤ 9223372036854775807) (hs : Sl Lay.sg w A l) (hB : B < w.heap.size) (hc : w.cell? ⟨B, 0, none⟩ = some (.string s)) :
    Calls Tryz.prog 189 #[.slice A l.length c, .func (.func 190) #[] #[.pointer (some ⟨B, 0, none⟩)]] w fun e w' => e = .returned (.int .i64 (idxI (isSg s) l)) ∧ Below w.heap.size w w' := by
  go_enter Tryz.func189, Tryz.ntmps189
  go_wp2_with fail
  go_loopw [5, 8] (fun j i wr => ∃ k : Nat, k ≤ l.length ∧ i = .int .i64 k ∧ Hid (∀ i (hi : i < k) (hi2 : i < l.length), isSg s l[i] = false) ∧ Below w.heap.size w wr) (fun _ i _ => l.length - (intOf i).toNat)
  case atStart => exact ⟨0, Nat.zero_le _, rfl, fun i hi => by omega, Below.refl _ _⟩
  case round =>
    obtain ⟨k, hk, rfl, HN, hbw⟩ := hrel
    by_cases hlt : k < l.length
    · obtain ⟨b, o, A2, c2, rfl, hb, d0, d1, d2, d3, hc2, hs2⟩ := (hs.mono hbw).sg_at hlt
      go_wp2_with fail
      refine (methodLit_any B l[k] A2 c2 s _ (Nat.lt_of_lt_of_le hB hbw.size) (by rw [hbw.cell hB]; exact hc)).mono ?_
      rintro e w1 ⟨rfl, hb1⟩
      cases hq : isSg s l[k] with
      | true =>
        have HE := Lib.hid (idxI_at hlt (fun i hi => HN.out i hi (by omega)) hq)
        clear hq
        go_wp2_with fail
        go_ret
        exact ⟨by rw [HE.out]; rfl, below_step hbw hb1⟩
      | false =>
        have HE : Hid (∀ i (hi : i < k + 1) (hi2 : i < l.length), isSg s l[i] = false) := fun i hi hi2 => by
          by_cases e : i = k
          · subst e; exact hq
          · exact HN.out i (by omega) hi2
        clear hq
        go_wp2_with fail
        go_roundw
        case rel => exact ⟨k + 1, by omega, by go_num, HE, below_step hbw hb1⟩
        case measure => simp [intOf]; omega
    · have HE := Lib.hid (idxI_none (p := isSg s) (l := l) (fun i hi => HN.out i (by omega) hi))
      go_wp2_with fail
      go_ret
      exact ⟨by rw [HE.out]; rfl, hbw⟩

theorem methodIn_any (x : Cls) (A2 A3 : Option Addr) (c2 c3 : Nat) (s : ByteArray) (w : World) (hl : x.methods.length ≤ 9223372036854775807) (hs : Sl Lay.sg w A3 x.methods) :
    Calls Tryz.prog 153 #[.agg #[.string x.name, .string x.super, .slice A2 x.fields.length c2, .slice A3 x.methods.length c3], .string s] w fun e w' => e = .returned (.int .i64 (idxI (isSg s) x.methods)) ∧ Below w.heap.size w w' := by
  go_enter Tryz.func153, Tryz.ntmps153
  go_wp2_with fail
  have hb0 : Below w.heap.size w ((w.alloc (.cells #[.string x.name, .string x.super, .slice A2 x.fields.length c2, .slice A3 x.methods.length c3] 113)).alloc (.cells #[.string s] 9)) := bw_alloc (bw_alloc (Below.refl _ _))
  refine (methodIdx_any A3 c3 (w.heap.size + 1) x.methods s _ hl (hs.mono hb0) (by simp) (by simp)).mono ?_
  rintro e w1 ⟨rfl, hb1⟩
  go_wp2_with fail
  go_ret
  exact ⟨rfl, below_step hb0 hb1⟩
end Go.Proofs.YthabojhnliomnaaGreatDoor
