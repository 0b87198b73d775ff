/-
  Chapters 41, 42: the checks of access paths, in the program and in the reference.
-/
import Derived.Test.YtmhdambkchlilaaGreatDoorJLexB
import Derived.Test.YtmhdambkchlilaaGreatDoorJPolA
namespace Go.Proofs.YtmhdambkchlilaaGreatDoor
open Go.RowKit
set_option linter.unusedVariables false

def mostI (r : Int) : Int := if r = 1 then 6 else if r = 3 then 255 else if r = 4 then 1023 else 0
/-- The error of a path. -/
def acpE (x : Acp) : Int := if ¬ (x.root = 1 ∨ x.root = 2 ∨ x.root = 3 ∨ x.root = 4) then 12 else if x.n < 0 ∨ mostI x.root < x.n then 4 else if 2 < x.fields.length then 3 else if x.fields.all identB then 0 else 5
def OkStrs (l : List ByteArray) : Prop := ∀ y ∈ l, y.size ≤ 9223372036854775807
theorem all_no {α : Type} {f : α → Bool} {l : List α} {k : Nat} (hk : k < l.length) (h : f l[k] = false) : l.all f = false := by
  rw [List.all_eq_false]
  exact ⟨l[k], List.getElem_mem hk, by simp [h]⟩
theorem all_up {α : Type} {f : α → Bool} {l : List α} {k : Nat} (hk : l.length ≤ k) (h : ∀ i (h : i < l.length), i < k → f l[i] = true) : l.all f = true := by
  rw [List.all_eq_true]
  intro x hx
  obtain ⟨i, hi, rfl⟩ := List.getElem_of_mem hx
  exact h i hi (by omega)
set_option maxRecDepth 100000 in
set_option maxHeartbeats 2000000 in
theorem acpCheck_any (x : Acp) (A : Option Addr) (c : Nat) (w : World) (hl : x.fields.length ≤ 9223372036854775807) (hkw : KwX w) (hs : Sl Lay.str w A x.fields) (hok : Hid (OkStrs x.fields)) :
    Calls Tryz.prog 212 #[.agg #[.int .i64 x.root, .int .i64 x.n, .slice A x.fields.length c, .bool x.star]] w fun e w' => e = .returned (.int .i64 (acpE x)) ∧ Below w.heap.size w w' := by
  obtain ⟨r, HR⟩ : ∃ r, Hid (r = acpE x) := ⟨_, Lib.hid rfl⟩
  rw [← HR.out]
  by_cases hr1 : x.root = 1
  · have hr := hr1
    have HM : Hid (mostI x.root = 6) := by show _ = _; rw [hr]; rfl
    have HK : Hid (r = if x.n < 0 ∨ 6 < x.n then 4 else if 2 < x.fields.length then 3 else if x.fields.all identB then 0 else 5) := by show _ = _; rw [HR.out, acpE, if_neg (by omega), HM.out]
    rw [hr]
    clear hr HM
    by_cases hn : x.n < 0
    · have HB : Hid (r = 4) := by show _ = _; rw [HK.out, if_pos (Or.inl hn)]
      go_enter Tryz.func212, Tryz.ntmps212
      go_wp2_with fail
      go_ret
      exact ⟨by rw [HB.out]; rfl, (by repeat (first | assumption | exact Below.refl _ _ | apply bw_alloc | apply bw_drew | apply bw_drewN | apply bw_later | apply bw_step))⟩
    by_cases hn2 : 6 < x.n
    · have HB : Hid (r = 4) := by show _ = _; rw [HK.out, if_pos (Or.inr hn2)]
      go_enter Tryz.func212, Tryz.ntmps212
      go_wp2_with fail
      go_ret
      exact ⟨by rw [HB.out]; rfl, (by repeat (first | assumption | exact Below.refl _ _ | apply bw_alloc | apply bw_drew | apply bw_drewN | apply bw_later | apply bw_step))⟩
    by_cases hf : 2 < x.fields.length
    · have HB : Hid (r = 3) := by show _ = _; rw [HK.out, if_neg (by omega), if_pos hf]
      go_enter Tryz.func212, Tryz.ntmps212
      go_wp2_with fail
      go_ret
      exact ⟨by rw [HB.out]; rfl, (by repeat (first | assumption | exact Below.refl _ _ | apply bw_alloc | apply bw_drew | apply bw_drewN | apply bw_later | apply bw_step))⟩
    have HB : Hid (r = if x.fields.all identB then 0 else 5) := by show _ = _; rw [HK.out, if_neg (by omega), if_neg hf]
    have hb0 : Below w.heap.size w (w.alloc (.cells #[.int .i64 1, .int .i64 x.n, .slice A x.fields.length c, .bool x.star] 80)) := (by repeat (first | assumption | exact Below.refl _ _ | apply bw_alloc | apply bw_drew | apply bw_drewN | apply bw_later | apply bw_step))
    have bx0 := Box.new w [.int .i64 1, .int .i64 x.n, .slice A x.fields.length c, .bool x.star] 80
    go_enter Tryz.func212, Tryz.ntmps212
    go_wp2_with fail
    go_loopw [32] (fun i wr => ∃ k : Nat, k ≤ x.fields.length ∧ i = .int .i64 k ∧ Hid (∀ i (h : i < x.fields.length), i < k → identB x.fields[i] = true) ∧ Box wr w.heap.size [.int .i64 1, .int .i64 x.n, .slice A x.fields.length c, .bool x.star] 80 ∧ Below w.heap.size w wr) (fun i _ => x.fields.length - (intOf i).toNat)
    case atStart => exact ⟨0, Nat.zero_le _, rfl, fun i h hi => by omega, bx0, hb0⟩
    case round =>
      obtain ⟨k, hk, rfl, HN, hbx, hbw⟩ := hrel
      have p2 := hbx.cell 2 rfl
      have pl := hbx.lt
      by_cases hlt : k < x.fields.length
      · obtain ⟨b, o, rfl, hb, d0⟩ := (hs.mono hbw).str_at hlt
        have hsz := hok.out _ (List.getElem_mem hlt)
        go_wp2_with fail
        refine (ident_any _ _ hsz (hkw.mono hbw)).mono ?_; rintro e w1 ⟨rfl, hw1⟩; have hb1 := (show Below wr.heap.size wr w1 by rw [← hw1]; exact Below.refl _ _); clear hw1
        cases hp : identB x.fields[k] with
        | true =>
          have HE : Hid (∀ i (h : i < x.fields.length), i < k + 1 → identB x.fields[i] = true) := fun i h hi => by
            by_cases e : i = k
            · subst e; exact hp
            · exact HN.out i h (by omega)
          clear hp
          go_wp2_with fail
          go_roundw
          case rel => exact ⟨k + 1, by omega, by go_num, HE, hbx.mono hb1, below_step hbw hb1⟩
          case measure => simp [intOf]; omega
        | false =>
          have HC : Hid (r = 5) := by show _ = _; rw [HB.out, all_no hlt hp]; rfl
          clear hp
          go_wp2_with fail
          go_ret
          exact ⟨by rw [HC.out]; rfl, below_step hbw hb1⟩
      · have HC : Hid (r = 0) := by show _ = _; rw [HB.out, all_up (show _ ≤ k by omega) HN.out]; rfl
        go_wp2_with fail
        go_ret
        exact ⟨by rw [HC.out]; rfl, hbw⟩
  by_cases hr2 : x.root = 2
  · have hr := hr2
    have HM : Hid (mostI x.root = 0) := by show _ = _; rw [hr]; rfl
    have HK : Hid (r = if x.n < 0 ∨ 0 < x.n then 4 else if 2 < x.fields.length then 3 else if x.fields.all identB then 0 else 5) := by show _ = _; rw [HR.out, acpE, if_neg (by omega), HM.out]
    rw [hr]
    clear hr HM
    by_cases hn : x.n < 0
    · have HB : Hid (r = 4) := by show _ = _; rw [HK.out, if_pos (Or.inl hn)]
      go_enter Tryz.func212, Tryz.ntmps212
      go_wp2_with fail
      go_ret
      exact ⟨by rw [HB.out]; rfl, (by repeat (first | assumption | exact Below.refl _ _ | apply bw_alloc | apply bw_drew | apply bw_drewN | apply bw_later | apply bw_step))⟩
    by_cases hn2 : 0 < x.n
    · have HB : Hid (r = 4) := by show _ = _; rw [HK.out, if_pos (Or.inr hn2)]
      go_enter Tryz.func212, Tryz.ntmps212
      go_wp2_with fail
      go_ret
      exact ⟨by rw [HB.out]; rfl, (by repeat (first | assumption | exact Below.refl _ _ | apply bw_alloc | apply bw_drew | apply bw_drewN | apply bw_later | apply bw_step))⟩
    by_cases hf : 2 < x.fields.length
    · have HB : Hid (r = 3) := by show _ = _; rw [HK.out, if_neg (by omega), if_pos hf]
      go_enter Tryz.func212, Tryz.ntmps212
      go_wp2_with fail
      go_ret
      exact ⟨by rw [HB.out]; rfl, (by repeat (first | assumption | exact Below.refl _ _ | apply bw_alloc | apply bw_drew | apply bw_drewN | apply bw_later | apply bw_step))⟩
    have HB : Hid (r = if x.fields.all identB then 0 else 5) := by show _ = _; rw [HK.out, if_neg (by omega), if_neg hf]
    have hb0 : Below w.heap.size w (w.alloc (.cells #[.int .i64 2, .int .i64 x.n, .slice A x.fields.length c, .bool x.star] 80)) := (by repeat (first | assumption | exact Below.refl _ _ | apply bw_alloc | apply bw_drew | apply bw_drewN | apply bw_later | apply bw_step))
    have bx0 := Box.new w [.int .i64 2, .int .i64 x.n, .slice A x.fields.length c, .bool x.star] 80
    go_enter Tryz.func212, Tryz.ntmps212
    go_wp2_with fail
    go_loopw [32] (fun i wr => ∃ k : Nat, k ≤ x.fields.length ∧ i = .int .i64 k ∧ Hid (∀ i (h : i < x.fields.length), i < k → identB x.fields[i] = true) ∧ Box wr w.heap.size [.int .i64 2, .int .i64 x.n, .slice A x.fields.length c, .bool x.star] 80 ∧ Below w.heap.size w wr) (fun i _ => x.fields.length - (intOf i).toNat)
    case atStart => exact ⟨0, Nat.zero_le _, rfl, fun i h hi => by omega, bx0, hb0⟩
    case round =>
      obtain ⟨k, hk, rfl, HN, hbx, hbw⟩ := hrel
      have p2 := hbx.cell 2 rfl
      have pl := hbx.lt
      by_cases hlt : k < x.fields.length
      · obtain ⟨b, o, rfl, hb, d0⟩ := (hs.mono hbw).str_at hlt
        have hsz := hok.out _ (List.getElem_mem hlt)
        go_wp2_with fail
        refine (ident_any _ _ hsz (hkw.mono hbw)).mono ?_; rintro e w1 ⟨rfl, hw1⟩; have hb1 := (show Below wr.heap.size wr w1 by rw [← hw1]; exact Below.refl _ _); clear hw1
        cases hp : identB x.fields[k] with
        | true =>
          have HE : Hid (∀ i (h : i < x.fields.length), i < k + 1 → identB x.fields[i] = true) := fun i h hi => by
            by_cases e : i = k
            · subst e; exact hp
            · exact HN.out i h (by omega)
          clear hp
          go_wp2_with fail
          go_roundw
          case rel => exact ⟨k + 1, by omega, by go_num, HE, hbx.mono hb1, below_step hbw hb1⟩
          case measure => simp [intOf]; omega
        | false =>
          have HC : Hid (r = 5) := by show _ = _; rw [HB.out, all_no hlt hp]; rfl
          clear hp
          go_wp2_with fail
          go_ret
          exact ⟨by rw [HC.out]; rfl, below_step hbw hb1⟩
      · have HC : Hid (r = 0) := by show _ = _; rw [HB.out, all_up (show _ ≤ k by omega) HN.out]; rfl
        go_wp2_with fail
        go_ret
        exact ⟨by rw [HC.out]; rfl, hbw⟩
  by_cases hr3 : x.root = 3
  · have hr := hr3
    have HM : Hid (mostI x.root = 255) := by show _ = _; rw [hr]; rfl
    have HK : Hid (r = if x.n < 0 ∨ 255 < x.n then 4 else if 2 < x.fields.length then 3 else if x.fields.all identB then 0 else 5) := by show _ = _; rw [HR.out, acpE, if_neg (by omega), HM.out]
    rw [hr]
    clear hr HM
    by_cases hn : x.n < 0
    · have HB : Hid (r = 4) := by show _ = _; rw [HK.out, if_pos (Or.inl hn)]
      go_enter Tryz.func212, Tryz.ntmps212
      go_wp2_with fail
      go_ret
      exact ⟨by rw [HB.out]; rfl, (by repeat (first | assumption | exact Below.refl _ _ | apply bw_alloc | apply bw_drew | apply bw_drewN | apply bw_later | apply bw_step))⟩
    by_cases hn2 : 255 < x.n
    · have HB : Hid (r = 4) := by show _ = _; rw [HK.out, if_pos (Or.inr hn2)]
      go_enter Tryz.func212, Tryz.ntmps212
      go_wp2_with fail
      go_ret
      exact ⟨by rw [HB.out]; rfl, (by repeat (first | assumption | exact Below.refl _ _ | apply bw_alloc | apply bw_drew | apply bw_drewN | apply bw_later | apply bw_step))⟩
    by_cases hf : 2 < x.fields.length
    · have HB : Hid (r = 3) := by show _ = _; rw [HK.out, if_neg (by omega), if_pos hf]
      go_enter Tryz.func212, Tryz.ntmps212
      go_wp2_with fail
      go_ret
      exact ⟨by rw [HB.out]; rfl, (by repeat (first | assumption | exact Below.refl _ _ | apply bw_alloc | apply bw_drew | apply bw_drewN | apply bw_later | apply bw_step))⟩
    have HB : Hid (r = if x.fields.all identB then 0 else 5) := by show _ = _; rw [HK.out, if_neg (by omega), if_neg hf]
    have hb0 : Below w.heap.size w (w.alloc (.cells #[.int .i64 3, .int .i64 x.n, .slice A x.fields.length c, .bool x.star] 80)) := (by repeat (first | assumption | exact Below.refl _ _ | apply bw_alloc | apply bw_drew | apply bw_drewN | apply bw_later | apply bw_step))
    have bx0 := Box.new w [.int .i64 3, .int .i64 x.n, .slice A x.fields.length c, .bool x.star] 80
    go_enter Tryz.func212, Tryz.ntmps212
    go_wp2_with fail
    go_loopw [32] (fun i wr => ∃ k : Nat, k ≤ x.fields.length ∧ i = .int .i64 k ∧ Hid (∀ i (h : i < x.fields.length), i < k → identB x.fields[i] = true) ∧ Box wr w.heap.size [.int .i64 3, .int .i64 x.n, .slice A x.fields.length c, .bool x.star] 80 ∧ Below w.heap.size w wr) (fun i _ => x.fields.length - (intOf i).toNat)
    case atStart => exact ⟨0, Nat.zero_le _, rfl, fun i h hi => by omega, bx0, hb0⟩
    case round =>
      obtain ⟨k, hk, rfl, HN, hbx, hbw⟩ := hrel
      have p2 := hbx.cell 2 rfl
      have pl := hbx.lt
      by_cases hlt : k < x.fields.length
      · obtain ⟨b, o, rfl, hb, d0⟩ := (hs.mono hbw).str_at hlt
        have hsz := hok.out _ (List.getElem_mem hlt)
        go_wp2_with fail
        refine (ident_any _ _ hsz (hkw.mono hbw)).mono ?_; rintro e w1 ⟨rfl, hw1⟩; have hb1 := (show Below wr.heap.size wr w1 by rw [← hw1]; exact Below.refl _ _); clear hw1
        cases hp : identB x.fields[k] with
        | true =>
          have HE : Hid (∀ i (h : i < x.fields.length), i < k + 1 → identB x.fields[i] = true) := fun i h hi => by
            by_cases e : i = k
            · subst e; exact hp
            · exact HN.out i h (by omega)
          clear hp
          go_wp2_with fail
          go_roundw
          case rel => exact ⟨k + 1, by omega, by go_num, HE, hbx.mono hb1, below_step hbw hb1⟩
          case measure => simp [intOf]; omega
        | false =>
          have HC : Hid (r = 5) := by show _ = _; rw [HB.out, all_no hlt hp]; rfl
          clear hp
          go_wp2_with fail
          go_ret
          exact ⟨by rw [HC.out]; rfl, below_step hbw hb1⟩
      · have HC : Hid (r = 0) := by show _ = _; rw [HB.out, all_up (show _ ≤ k by omega) HN.out]; rfl
        go_wp2_with fail
        go_ret
        exact ⟨by rw [HC.out]; rfl, hbw⟩
  by_cases hr4 : x.root = 4
  · have hr := hr4
    have HM : Hid (mostI x.root = 1023) := by show _ = _; rw [hr]; rfl
    have HK : Hid (r = if x.n < 0 ∨ 1023 < x.n then 4 else if 2 < x.fields.length then 3 else if x.fields.all identB then 0 else 5) := by show _ = _; rw [HR.out, acpE, if_neg (by omega), HM.out]
    rw [hr]
    clear hr HM
    by_cases hn : x.n < 0
    · have HB : Hid (r = 4) := by show _ = _; rw [HK.out, if_pos (Or.inl hn)]
      go_enter Tryz.func212, Tryz.ntmps212
      go_wp2_with fail
      go_ret
      exact ⟨by rw [HB.out]; rfl, (by repeat (first | assumption | exact Below.refl _ _ | apply bw_alloc | apply bw_drew | apply bw_drewN | apply bw_later | apply bw_step))⟩
    by_cases hn2 : 1023 < x.n
    · have HB : Hid (r = 4) := by show _ = _; rw [HK.out, if_pos (Or.inr hn2)]
      go_enter Tryz.func212, Tryz.ntmps212
      go_wp2_with fail
      go_ret
      exact ⟨by rw [HB.out]; rfl, (by repeat (first | assumption | exact Below.refl _ _ | apply bw_alloc | apply bw_drew | apply bw_drewN | apply bw_later | apply bw_step))⟩
    by_cases hf : 2 < x.fields.length
    · have HB : Hid (r = 3) := by show _ = _; rw [HK.out, if_neg (by omega), if_pos hf]
      go_enter Tryz.func212, Tryz.ntmps212
      go_wp2_with fail
      go_ret
      exact ⟨by rw [HB.out]; rfl, (by repeat (first | assumption | exact Below.refl _ _ | apply bw_alloc | apply bw_drew | apply bw_drewN | apply bw_later | apply bw_step))⟩
    have HB : Hid (r = if x.fields.all identB then 0 else 5) := by show _ = _; rw [HK.out, if_neg (by omega), if_neg hf]
    have hb0 : Below w.heap.size w (w.alloc (.cells #[.int .i64 4, .int .i64 x.n, .slice A x.fields.length c, .bool x.star] 80)) := (by repeat (first | assumption | exact Below.refl _ _ | apply bw_alloc | apply bw_drew | apply bw_drewN | apply bw_later | apply bw_step))
    have bx0 := Box.new w [.int .i64 4, .int .i64 x.n, .slice A x.fields.length c, .bool x.star] 80
    go_enter Tryz.func212, Tryz.ntmps212
    go_wp2_with fail
    go_loopw [32] (fun i wr => ∃ k : Nat, k ≤ x.fields.length ∧ i = .int .i64 k ∧ Hid (∀ i (h : i < x.fields.length), i < k → identB x.fields[i] = true) ∧ Box wr w.heap.size [.int .i64 4, .int .i64 x.n, .slice A x.fields.length c, .bool x.star] 80 ∧ Below w.heap.size w wr) (fun i _ => x.fields.length - (intOf i).toNat)
    case atStart => exact ⟨0, Nat.zero_le _, rfl, fun i h hi => by omega, bx0, hb0⟩
    case round =>
      obtain ⟨k, hk, rfl, HN, hbx, hbw⟩ := hrel
      have p2 := hbx.cell 2 rfl
      have pl := hbx.lt
      by_cases hlt : k < x.fields.length
      · obtain ⟨b, o, rfl, hb, d0⟩ := (hs.mono hbw).str_at hlt
        have hsz := hok.out _ (List.getElem_mem hlt)
        go_wp2_with fail
        refine (ident_any _ _ hsz (hkw.mono hbw)).mono ?_; rintro e w1 ⟨rfl, hw1⟩; have hb1 := (show Below wr.heap.size wr w1 by rw [← hw1]; exact Below.refl _ _); clear hw1
        cases hp : identB x.fields[k] with
        | true =>
          have HE : Hid (∀ i (h : i < x.fields.length), i < k + 1 → identB x.fields[i] = true) := fun i h hi => by
            by_cases e : i = k
            · subst e; exact hp
            · exact HN.out i h (by omega)
          clear hp
          go_wp2_with fail
          go_roundw
          case rel => exact ⟨k + 1, by omega, by go_num, HE, hbx.mono hb1, below_step hbw hb1⟩
          case measure => simp [intOf]; omega
        | false =>
          have HC : Hid (r = 5) := by show _ = _; rw [HB.out, all_no hlt hp]; rfl
          clear hp
          go_wp2_with fail
          go_ret
          exact ⟨by rw [HC.out]; rfl, below_step hbw hb1⟩
      · have HC : Hid (r = 0) := by show _ = _; rw [HB.out, all_up (show _ ≤ k by omega) HN.out]; rfl
        go_wp2_with fail
        go_ret
        exact ⟨by rw [HC.out]; rfl, hbw⟩
  have HB : Hid (r = 12) := by show _ = _; rw [HR.out, acpE, if_pos (by omega)]
  have e1 : (x.root == 1) = false := by simpa using hr1
  have e2 : (x.root == 2) = false := by simpa using hr2
  have e3 : (x.root == 3) = false := by simpa using hr3
  have e4 : (x.root == 4) = false := by simpa using hr4
  clear hr1 hr2 hr3 hr4
  go_enter Tryz.func212, Tryz.ntmps212
  go_wp2_with fail
  go_ret
  exact ⟨by rw [HB.out]; rfl, (by repeat (first | assumption | exact Below.refl _ _ | apply bw_alloc | apply bw_drew | apply bw_drewN | apply bw_later | apply bw_step))⟩
end Go.Proofs.YtmhdambkchlilaaGreatDoor
