/-
  Joined (wip/merge.py): GraA, GraB, GraC, GraD, GraE, GraF, GraG.
-/
import Derived.Test.YthlpndgfphjlkaaCfgM
import Derived.Sort.QuietIn
import Derived.Test.YthlpndgfphjlkaaCfgN
import Derived.Test.YthlpndgfphjlkaaMgBits
import Derived.Test.YthlpndgfphjlkaaMgPlain
import Derived.Laws.EntriesVeiled

namespace Go.Proofs.Ythlpndgfphjlkaa
open Go.RowKit
set_option linter.unusedVariables false

/-- A graph in order. -/
structure GrOk (n : Nat) (E : List (Int × Int)) : Prop where
  nn : n ≤ 8192
  len : E.length ≤ 32768
  rng : ∀ p ∈ E, inG n p
  asc : Asc ltP E

set_option maxRecDepth 100000 in
set_option maxHeartbeats 2000000 in
theorem graphCheck_any (n : Nat) (A : Option Addr) (c : Nat) (E : List (Int × Int)) (w : World) (hG : Hid (GrOk n E)) (hs : Sl Lay.int2 w A E) :
    Calls Try.prog 37 #[.agg #[.int .i64 (n : Nat), .slice A E.length c]] w fun e w' => e = .returned (.int .i64 0) ∧ Below w.heap.size w w' := by
  have n0 : ¬ (n : Int) < 0 := by omega
  have n1 : ¬ (8192 : Int) < (n : Int) := by have := hG.out.nn; omega
  have n2 : ¬ (32768 : Int) < (E.length : Int) := by have := hG.out.len; omega
  have HL := Lib.hid hG.out.len
  go_enter Try.func37, Try.ntmps37
  go_wp2_with fail
  go_loopw [20] (fun i wr => ∃ k : Nat, k ≤ E.length ∧ i = .int .i64 k ∧ Box wr w.heap.size [.int .i64 (n : Nat), .slice A E.length c] 28 ∧ Below w.heap.size w wr) (fun i _ => E.length - (intOf i).toNat)
  case atStart => exact ⟨0, Nat.zero_le _, rfl, Box.new _ _ _, (by repeat (first | assumption | exact Below.refl _ _ | apply bw_alloc | apply bw_drew | apply bw_drewN | apply bw_later | apply bw_step))⟩
  case round =>
    obtain ⟨k, hk, rfl, hbx, hbw⟩ := hrel
    obtain ⟨wo, rfl⟩ : ∃ wo : World, wo = wr := ⟨_, rfl⟩
    have p0 := hbx.cell 0 rfl
    have p1 := hbx.cell 1 rfl
    have pl := hbx.lt
    by_cases hlt : k < E.length
    · obtain ⟨b, o, rfl, hb, d0, d1⟩ := (hs.mono hbw).int2_at hlt
      have hin := hG.out.rng _ (List.getElem_mem hlt)
      unfold inG at hin
      have t1 : (decide (0 ≤ E[k].1) && decide (E[k].1 < (n : Int))) = true := by simp; omega
      have t2 : (decide (0 ≤ E[k].2) && decide (E[k].2 < (n : Int))) = true := by simp; omega
      clear hin
      replace t1 := Lib.hid t1
      replace t2 := Lib.hid t2
      obtain ⟨ex, hex⟩ : ∃ x, x = E[k].1 := ⟨_, rfl⟩
      obtain ⟨ey, hey⟩ : ∃ x, x = E[k].2 := ⟨_, rfl⟩
      rw [← hex] at t1 d0
      rw [← hey] at t2 d1
      have HX := Lib.hid hex
      have HY := Lib.hid hey
      clear hex hey
      have hkI : (k : Int) < (E.length : Int) := by omega
      have hbx1 := hbx.alloc (.cells #[.int .i64 ex, .int .i64 ey] 33)
      have hbw1 : Below w.heap.size w (wo.alloc (.cells #[.int .i64 ex, .int .i64 ey] 33)) := bw_alloc hbw
      by_cases hk0 : k = 0
      · have hz : decide (0 < k) = false := by simp [hk0]
        subst hk0
        simp only [Nat.zero_mul, Nat.add_zero] at d0 d1
        go_wp2_with fail
        refine (node_any n ex _).mono ?_
        rw [t1.out]
        rintro e w1 ⟨rfl, rfl⟩
        go_wp2_with fail
        refine (node_any n ey _).mono ?_
        rw [t2.out]
        rintro e w1 ⟨rfl, rfl⟩
        go_wp2_with fail
        go_quiet (fail)
        go_wp2_with fail
        go_roundw
        case rel => exact ⟨1, by omega, by go_num, hbx1.mono (by repeat (first | assumption | exact Below.refl _ _ | apply bw_alloc | apply bw_drew | apply bw_drewN | apply bw_later | apply bw_step)), below_step hbw1 (by repeat (first | assumption | exact Below.refl _ _ | apply bw_alloc | apply bw_drew | apply bw_drewN | apply bw_later | apply bw_step))⟩
        case measure => simp [intOf]; omega
      · have h0' : 0 < k := by omega
        have hz : decide (0 < k) = true := by simpa using h0'
        have hk1 : k - 1 < E.length := by omega
        obtain ⟨b', o', he, hb', e0, e1⟩ := (hs.mono hbw).int2_at hk1
        obtain ⟨rfl, rfl⟩ : b' = b ∧ o' = o := by cases he; exact ⟨rfl, rfl⟩
        clear he
        have hcm : decide (0 ≤ cmpP (E[k - 1].1, E[k - 1].2) (ex, ey)) = false := by
          have h1 : ltP E[k - 1] E[k] = true := List.pairwise_iff_getElem.1 hG.out.asc (k - 1) k hk1 hlt (by omega)
          have := cmpP_neg E[k - 1] E[k]
          rw [h1] at this
          rw [HX.out, HY.out]
          exact this
        go_wp2_with fail
        refine (node_any n ex _).mono ?_
        rw [t1.out]
        rintro e w1 ⟨rfl, rfl⟩
        go_wp2_with fail
        refine (node_any n ey _).mono ?_
        rw [t2.out]
        rintro e w1 ⟨rfl, rfl⟩
        go_wp2_with fail
        refine wp_region_later (by kernel_rfl) (by kernel_rfl) ?_
        repeat (go_big_quiet_step ((go_at_call 33; exact Calls.later (graphCompare_any _ _ _ _ _))))
        refine wpQuiet_nil ?_
        rintro _ ⟨x, rfl⟩
        go_wp2_with fail
        go_roundw
        case rel => exact ⟨k + 1, by omega, by go_num, hbx1.mono (by repeat (first | assumption | exact Below.refl _ _ | apply bw_alloc | apply bw_drew | apply bw_drewN | apply bw_later | apply bw_step)), below_step hbw1 (by repeat (first | assumption | exact Below.refl _ _ | apply bw_alloc | apply bw_drew | apply bw_drewN | apply bw_later | apply bw_step))⟩
        case measure => simp [intOf]; omega
    · obtain rfl : k = E.length := by omega
      go_wp2_with fail
      go_ret
      exact ⟨rfl, hbw⟩

set_option maxHeartbeats 1000000 in
theorem domCheck_any (n r : Nat) (A : Option Addr) (c : Nat) (E : List (Int × Int)) (w : World) (hG : Hid (GrOk n E)) (hr : r < n) (hs : Sl Lay.int2 w A E) :
    Calls Try.prog 42 #[.agg #[.int .i64 (n : Nat), .slice A E.length c], .int .i64 (r : Nat)] w fun e w' => e = .returned (.int .i64 0) ∧ Below w.heap.size w w' := by
  have n0 : ¬ (r : Int) < 0 := by omega
  have n1 : ¬ (n : Int) ≤ (r : Int) := by omega
  go_enter Try.func42, Try.ntmps42
  go_wp2_with fail
  have hbx : Box (w.alloc (.cells #[.int .i64 (n : Nat), .slice A E.length c] 28)) w.heap.size [.int .i64 (n : Nat), .slice A E.length c] 28 := Box.new _ _ _
  have hbw : Below w.heap.size w (w.alloc (.cells #[.int .i64 (n : Nat), .slice A E.length c] 28)) := (by repeat (first | assumption | exact Below.refl _ _ | apply bw_alloc | apply bw_drew | apply bw_drewN | apply bw_later | apply bw_step))
  refine (graphCheck_any n A c E _ hG (hs.mono hbw)).mono ?_
  rintro e w1 ⟨rfl, hb1⟩
  have hbx1 := hbx.mono hb1
  have hbw1 := below_step hbw hb1
  have p0 := hbx1.cell 0 rfl
  have p1 := hbx1.cell 1 rfl
  have pl := hbx1.lt
  go_wp2_with fail
  go_ret
  exact ⟨rfl, hbw1⟩
end Go.Proofs.Ythlpndgfphjlkaa

namespace Go.Proofs.Ythlpndgfphjlkaa
open Go.RowKit
set_option linter.unusedVariables false

/-- A list whose first components do not fall. -/
def Rises (f : List (Int × Int)) : Prop := ∀ i j (hi : i < f.length) (hj : j < f.length), i ≤ j → f[i].1 ≤ f[j].1
theorem rises_of_asc {f : List (Int × Int)} (h : Asc ltP f) : Rises f := fun i j hi hj hij => by
  by_cases e : i = j
  · subst e; exact Int.le_refl _
  · have := List.pairwise_iff_getElem.1 h i j hi hj (by omega)
    simp only [ltP, Bool.or_eq_true, Bool.and_eq_true, decide_eq_true_eq] at this
    omega

set_option maxHeartbeats 1000000 in
theorem succClosure_any (n : Nat) (A : Option Addr) (c : Nat) (f : List (Int × Int)) (d : Int) (g1 g2 : Nat) (i : Nat) (w : World) (hi : i < f.length) (hs : Sl Lay.int2 w A f) (h1 : Box w g1 [.int .i64 (n : Nat), .slice A f.length c] 28) (h2 : Box w g2 [.int .i64 d] 3) :
    Calls Try.prog 57 #[.int .i64 i, .pointer (some ⟨g1, 0, none⟩), .pointer (some ⟨g2, 0, none⟩)] w fun e w' => e = .returned (.bool (decide (d ≤ f[i].1))) ∧ Below w.heap.size w w' := by
  obtain ⟨b, o, rfl, hb, c0, c1⟩ := hs.int2_at hi
  have HX : Hid (decide (d ≤ f[i].1) = decide (d ≤ f[i].1)) := rfl
  have p0 := h1.cell 1 rfl
  have pl := h1.lt
  have q0 := h2.cell 0 rfl
  have ql := h2.lt
  generalize f[i] = p at *
  go_enter Try.func57, Try.ntmps57
  go_wp2_with fail
  refine wp_region_later (by kernel_rfl) (by kernel_rfl) ?_
  repeat (go_big_quiet_step (fail))
  refine wpQuiet_nil ?_
  rintro _ ⟨x, rfl⟩
  go_wp2_with fail
  go_ret
  exact ⟨rfl, (by repeat (first | assumption | exact Below.refl _ _ | apply bw_alloc | apply bw_drew | apply bw_drewN | apply bw_later | apply bw_step))⟩

set_option maxHeartbeats 1000000 in
theorem sortSearch_succ (n : Nat) (A : Option Addr) (c : Nat) (f : List (Int × Int)) (d : Int) (g1 g2 : Nat) (w : World) (hl : f.length ≤ 100000) (hr : Hid (Rises f)) (hs : Sl Lay.int2 w A f) (h1 : Box w g1 [.int .i64 (n : Nat), .slice A f.length c] 28) (h2 : Box w g2 [.int .i64 d] 3) :
    Calls Try.prog 56 #[.int .i64 f.length, .func (.func 57) #[] #[.pointer (some ⟨g1, 0, none⟩), .pointer (some ⟨g2, 0, none⟩)]] w fun e w' => (∃ n : Nat, e = .returned (.int .i64 n) ∧ n ≤ f.length ∧ Hid (∀ i (hi : i < f.length), (i < n → f[i].1 < d) ∧ (n ≤ i → d ≤ f[i].1))) ∧ Below w.heap.size w w' := by
  go_enter Try.func56, Try.ntmps56
  go_wp2_with fail
  go_loopw [5, 6] (fun a b wr => ∃ i j : Nat, i ≤ j ∧ j ≤ f.length ∧ a = .int .i64 i ∧ b = .int .i64 j ∧ Hid (∀ x (hx : x < f.length), (x < i → f[x].1 < d) ∧ (j ≤ x → d ≤ f[x].1)) ∧ Below w.heap.size w wr) (fun a b _ => (intOf b).toNat - (intOf a).toNat)
  case atStart => exact ⟨0, f.length, Nat.zero_le _, Nat.le_refl _, rfl, rfl, fun x hx => ⟨fun h => by omega, fun h => by omega⟩, Below.refl _ _⟩
  case round =>
    obtain ⟨i, j, hij, hjl, rfl, rfl, HI, hbw⟩ := hrel
    by_cases hlt : i < j
    · go_wp2_with fail
      obtain ⟨m, hm, hm1, hm2⟩ : ∃ m : Nat, ((i : Int) + (j : Int)) / 2 = m ∧ i ≤ m ∧ m < j := ⟨(i + j) / 2, by omega, by omega, by omega⟩
      rw [hm]
      clear hm
      refine (succClosure_any n A c f d g1 g2 m _ (by omega) (hs.mono hbw) (h1.mono hbw) (h2.mono hbw)).mono ?_
      rintro e w1 ⟨rfl, hb1⟩
      have hml : m < f.length := by omega
      cases hd : decide (d ≤ f[m].1) with
      | true =>
        have HD := Lib.hid (of_decide_eq_true hd)
        clear hd
        go_wp2_with fail
        go_roundw
        case rel => exact ⟨i, m, by omega, by omega, rfl, rfl, fun x hx => ⟨(HI.out x hx).1, fun h => Int.le_trans HD.out (hr.out m x hml hx h)⟩, below_step hbw hb1⟩
        case measure => simp [intOf]; omega
      | false =>
        have HD := Lib.hid (of_decide_eq_false hd)
        clear hd
        go_wp2_with fail
        go_roundw
        case rel => exact ⟨m + 1, j, by omega, by omega, by go_num, rfl, fun x hx => ⟨fun h => by
          have h5 := hr.out x m hx hml (by omega)
          have h6 := HD.out
          omega, (HI.out x hx).2⟩, below_step hbw hb1⟩
        case measure => simp [intOf]; omega
    · go_wp2_with fail
      go_ret
      exact ⟨⟨i, rfl, by omega, fun x hx => ⟨(HI.out x hx).1, fun h => (HI.out x hx).2 (by omega)⟩⟩, hbw⟩
end Go.Proofs.Ythlpndgfphjlkaa

namespace Go.Proofs.Ythlpndgfphjlkaa
open Go.RowKit Go.Shelf
set_option linter.unusedVariables false
attribute [local go_sem] Oper.semAt_some

/-- The pairs of a list with one first component. -/
def withIn (f : List (Int × Int)) (d : Int) : List (Int × Int) := f.filter fun p => p.1 == d
theorem withIn_seg {f : List (Int × Int)} {d : Int} {n m : Nat} (hn : n ≤ m) (hm : m ≤ f.length) (h1 : ∀ i (hi : i < f.length), i < n → f[i].1 ≠ d) (h2 : ∀ i (hi : i < f.length), n ≤ i → i < m → f[i].1 = d) (h3 : ∀ i (hi : i < f.length), m ≤ i → f[i].1 ≠ d) : withIn f d = (f.take m).drop n := by
  unfold withIn
  have e : f = f.take n ++ ((f.take m).drop n ++ f.drop m) := by
    have a1 : f.take n = (f.take m).take n := by rw [List.take_take, Nat.min_eq_left hn]
    rw [a1, ← List.append_assoc, List.take_append_drop, List.take_append_drop]
  rw [show f.filter (fun p => p.1 == d) = (f.take n ++ ((f.take m).drop n ++ f.drop m)).filter (fun p => p.1 == d) by rw [← e], List.filter_append, List.filter_append]
  have f1 : (f.take n).filter (fun p => p.1 == d) = [] := by
    rw [List.filter_eq_nil_iff]
    intro p hp
    obtain ⟨i, hi, rfl⟩ := List.getElem_of_mem hp
    rw [List.length_take] at hi
    rw [List.getElem_take]
    simpa using h1 i (by omega) (by omega)
  have f3 : (f.drop m).filter (fun p => p.1 == d) = [] := by
    rw [List.filter_eq_nil_iff]
    intro p hp
    obtain ⟨i, hi, rfl⟩ := List.getElem_of_mem hp
    rw [List.length_drop] at hi
    rw [List.getElem_drop]
    simpa using h3 (m + i) (by omega) (by omega)
  have f2 : ((f.take m).drop n).filter (fun p => p.1 == d) = (f.take m).drop n := by
    rw [List.filter_eq_self]
    intro p hp
    obtain ⟨i, hi, rfl⟩ := List.getElem_of_mem hp
    rw [List.length_drop, List.length_take] at hi
    rw [List.getElem_drop, List.getElem_take]
    simpa using h2 (n + i) (by omega) (by omega) (by omega)
  rw [f1, f2, f3, List.nil_append, List.append_nil]
/-- The successors of a node. -/
def succL (E : List (Int × Int)) (v : Int) : List Int := (withIn E v).map (·.2)
/-- A successor of a node. -/
abbrev SucI (E : List (Int × Int)) (d : Int) := { y : Int // (d, y) ∈ E }
def encS {E : List (Int × Int)} {d : Int} (x : SucI E d) : Array Value := #[.int .i64 x.1]
theorem mem_succL {E : List (Int × Int)} {d y : Int} : y ∈ succL E d ↔ (d, y) ∈ E := by
  unfold succL withIn
  rw [List.mem_map]
  constructor
  · rintro ⟨p, hp, rfl⟩
    rw [List.mem_filter] at hp
    have : p.1 = d := by simpa using hp.2
    rw [← this]
    exact hp.1
  · intro h
    exact ⟨(d, y), List.mem_filter.2 ⟨h, by simp⟩, rfl⟩
/-- What a round may turn: all but the blocks of S. -/
def KpS (n₀ : Nat) (S : Nat → Prop) (W W' : World) : Prop := Below n₀ W W' ∧ ∀ (b : Nat) cs t fz, S b → W.heap[b]? = some (Obj.cells cs t fz) → W'.heap[b]? = some (Obj.cells cs t fz)
theorem KpS.trans {n₀ : Nat} {S : Nat → Prop} {A B C : World} (h : KpS n₀ S A B) (k : KpS n₀ S B C) : KpS n₀ S A C := ⟨h.1.trans k.1, fun b cs t fz hS hb => k.2 b cs t fz hS (h.2 b cs t fz hS hb)⟩
theorem KpS.of_below {n₀ : Nat} {S : Nat → Prop} {A B : World} (hn : n₀ ≤ A.heap.size) (h : Below A.heap.size A B) : KpS n₀ S A B := ⟨h.mono hn, fun b cs t fz _ hb => (h.block b (Array.getElem?_eq_some_iff.1 hb).1).trans hb⟩
theorem KpS.put {n₀ : Nat} {S : Nat → Prop} {w : World} (hn : n₀ ≤ w.heap.size) (W : World) (l : Nat) (o o' : Obj) (hl : w.heap.size ≤ l) (h : W.heap[l]? = some o) (hc : o.isCells = false) (hw : o.isWalk = false) : KpS n₀ S W (W.putObj l o') := by
  refine ⟨belowK_b hn W l o o' hl h hc hw, fun b cs t fz _ hb => ?_⟩
  have hne : b ≠ l := fun e => by subst e; rw [h] at hb; injection hb with hb; subst hb; cases hc
  exact ((grownBy_putObj' W l o').block b (Array.getElem?_eq_some_iff.1 hb).1 (fun e => hne (by injection e))).trans hb
theorem Box.keptS {n₀ : Nat} {S : Nat → Prop} {W W' : World} {b : Nat} {cs : List Value} {t : TypeId} (h : Box W b cs t) (hk : KpS n₀ S W W') (hS : S b) : Box W' b cs t := hk.2 _ _ _ _ hS h

set_option maxRecDepth 100000 in
set_option maxHeartbeats 4000000 in
theorem succ1_in (m l g1 g2 n₀ n : Nat) (A : Option Addr) (c : Nat) (E : List (Int × Int)) (d : Int) (hm : 1 ≤ m) (S : Nat → Prop) (S1 : S g1) (S2 : S g2) (hG : Hid (GrOk n E)) (J Jx : List (SucI E d) → World → Prop) (W : World) (hJa : AbidesFrom W.heap.size J)
    (hY : ∀ pre x W1, J pre W1 → pre.length < 40000 → YieldAt Fence.wide (m - 1) Try.prog l (encS x) W1 fun e W' =>
      (e = .returned (.bool true) ∧ J (pre ++ [x]) W' ∧ KpS n₀ S W1 W') ∨ (e = .returned (.bool false) ∧ Jx (pre ++ [x]) W'))
    (hn0 : n₀ ≤ W.heap.size) (h1 : Box W g1 [.int .i64 (n : Nat), .slice A E.length c] 28) (h2 : Box W g2 [.int .i64 d] 3) (w : World) (hw : w.heap.size = n₀) (hwW : Below n₀ w W) (hs : Sl Lay.int2 w A E) (h0 : J [] W) :
    CallsIn Fence.wide m Try.prog 55 #[.func (.yield l) #[] #[], .pointer (some ⟨g1, 0, none⟩), .pointer (some ⟨g2, 0, none⟩)] W fun e W' => (∃ v, e = .returned v) ∧
      ((∃ ys : List (SucI E d), ys.map (·.1) = succL E d ∧ J ys W') ∨ (∃ pre, True ∧ Jx pre W')) := by
  have HR := Lib.hid (rises_of_asc hG.out.asc)
  have HL := Lib.hid hG.out.len
  have p1 := h1.cell 1 rfl
  have pl := h1.lt
  refine callsIn_of_wp Try.func55 rfl trivial ?_ rfl
  simp only [Try.ntmps55, List.size_toArray, List.length_cons, List.length_nil, Nat.reduceAdd, Nat.reduceSub, Array.replicate_succ, Array.replicate_zero, List.push_toArray, List.append_toArray, List.nil_append, List.cons_append]
  gi_wp2
  refine ⟨trivial, (callsIn_wide.2 (sortSearch_succ n A c E d g1 g2 W (by have := HL.out; omega) HR (hs.mono (hw ▸ hwW)) h1 h2)).mono ?_⟩
  rintro e w1 ⟨⟨fi, rfl, hfi, HF⟩, hb1⟩
  have B1 := h1.mono hb1
  have B2 := h2.mono hb1
  have hJ1 := abides_below hJa h0 hb1
  have hw1 := hwW.trans (hb1.mono hn0)
  have hn1 : n₀ ≤ w1.heap.size := Nat.le_trans hn0 hb1.size
  clear p1 pl h1 h2 h0 hwW
  gi_wp2
  gi_loopw [5] (fun i wr => ∃ (k : Nat) (pre : List (SucI E d)), fi ≤ k ∧ k ≤ E.length ∧ i = .int .i64 k ∧ Hid (∀ j (hj : j < E.length), fi ≤ j → j < k → E[j].1 = d) ∧ Hid (pre.map (·.1) = ((E.take k).drop fi).map (·.2)) ∧ J pre wr ∧ Box wr g1 [.int .i64 (n : Nat), .slice A E.length c] 28 ∧ Box wr g2 [.int .i64 d] 3 ∧ Below n₀ w wr ∧ n₀ ≤ wr.heap.size) (fun i _ => E.length - (intOf i).toNat)
  case atStart => exact ⟨fi, [], Nat.le_refl _, hfi, rfl, fun j hj h1 h2 => by omega, by show _ = _; rw [List.drop_take, Nat.sub_self]; rfl, hJ1, B1, B2, hw1, hn1⟩
  case round =>
    clear hJ1 B1 B2 hw1 hn1
    obtain ⟨k, pre, hk0, hk, rfl, HD, HPR, hJ, B1, B2, hbw, hsz⟩ := hrel
    have p1 := B1.cell 1 rfl
    have pl := B1.lt
    have q0 := B2.cell 0 rfl
    have ql := B2.lt
    by_cases hlt : k < E.length
    · obtain ⟨b, o, rfl, hb, d0, d1⟩ := (hs.mono (hw ▸ hbw)).int2_at hlt
      obtain ⟨ex, hex⟩ : ∃ x, x = E[k].1 := ⟨_, rfl⟩
      obtain ⟨ey, hey⟩ : ∃ x, x = E[k].2 := ⟨_, rfl⟩
      rw [← hex] at d0
      rw [← hey] at d1
      have hz : decide (k < E.length) = true := decide_eq_true hlt
      have HT : Hid (((E.take (k + 1)).drop fi).map (·.2) = ((E.take k).drop fi).map (·.2) ++ [ey]) := by
        show _ = _
        rw [List.take_succ_eq_append_getElem hlt, List.drop_append_of_le_length (by rw [List.length_take]; omega), List.map_append, hey]
        rfl
      by_cases hed : ex = d
      · have HEd : Hid ((d, ey) ∈ E) := by show _ ∈ _; rw [← hed, hex, hey]; exact List.getElem_mem hlt
        have HD2 : Hid (∀ j (hj : j < E.length), fi ≤ j → j < k + 1 → E[j].1 = d) := fun j hj h1 h2 => by
          by_cases e : j = k
          · subst e; rw [← hex]; exact hed
          · exact HD.out j hj h1 (by omega)
        have HY := Lib.hid hey
        have HPL : Hid (pre.length < 40000) := by
          show _ < _
          have := congrArg List.length HPR.out
          rw [List.length_map] at this
          rw [this, List.length_map, List.length_drop, List.length_take]
          have := HL.out
          omega
        have HPR2 : Hid ((pre ++ [(⟨ey, HEd.out⟩ : SucI E d)]).map (·.1) = ((E.take (k + 1)).drop fi).map (·.2)) := by
          show _ = _
          rw [HT.out, List.map_append, HPR.out]; rfl
        clear HD hex hey
        have hbq := fun q => bw_drewN (n := q) (Below.refl wr.heap.size wr)
        gi_wp2
        gi_quiet (fail)
        have hb3 := hbq nq
        clear hbq
        generalize hW3 : World.drewN wr nq = w3 at *
        clear hW3
        have hJ3 := abides_below hJa hJ hb3
        have B13 := B1.mono hb3
        have B23 := B2.mono hb3
        have hw3 := hbw.trans (hb3.mono hsz)
        have hz3 := Nat.le_trans hsz hb3.size
        obtain ⟨b', o', he, hb', c0, c1⟩ := (hs.mono (hw ▸ hw3)).int2_at hlt
        obtain ⟨rfl, rfl⟩ : b' = b ∧ o' = o := by cases he; exact ⟨rfl, rfl⟩
        rw [← HY.out] at c1
        clear hb he d0 d1 c0 p1 pl q0 ql
        have p1 := B13.cell 1 rfl
        have pl := B13.lt
        obtain ⟨fn, tmps, assign, body, hy, hR⟩ := hY _ ⟨ey, HEd.out⟩ w3 hJ3 HPL.out
        unfold encS at hy
        dsimp only at hy
        clear hJ B1 B2 hbw hsz
        gi_wp2
        refine hR.mono ?_
        rintro e W4 (⟨rfl, hJ4, hk4⟩ | ⟨rfl, hJx4⟩)
        · have hkl : k < 40000 := by have := HL.out; omega
          gi_wp2
          go_roundw
          case rel => exact ⟨k + 1, _, by omega, by omega, by go_num, HD2, HPR2, hJ4, B13.keptS hk4 S1, B23.keptS hk4 S2, hw3.trans hk4.1, Nat.le_trans hz3 hk4.1.size⟩
          case measure => simp [intOf]; omega
        · gi_wp2
          refine bodyPost_ret (results_none rfl _ _ _) rfl ?_
          exact ⟨⟨_, rfl⟩, .inr ⟨_, trivial, hJx4⟩⟩
      · have hed2 : (ex == d) = false := by simpa using hed
        rw [hex] at hed
        have HW : Hid (succL E d = ((E.take k).drop fi).map (·.2)) := by
          show _ = _
          unfold succL
          rw [withIn_seg hk0 hk (fun i hi h => by have := (HF.out i hi).1 h; omega) (fun i hi h1 h2 => HD.out i hi h1 h2) (fun i hi h => by
            have h1 := (HF.out k hlt).2 hk0
            have h2 := HR.out k i hlt hi h
            omega)]
        clear HD hex hey
        gi_wp2
        gi_quiet (fail)
        gi_wp2
        go_end0
        exact ⟨⟨_, rfl⟩, .inl ⟨_, HPR.out.trans HW.out.symm, abides_below hJa hJ (by repeat (first | assumption | exact Below.refl _ _ | apply bw_alloc | apply bw_drew | apply bw_drewN | apply bw_later | apply bw_step))⟩⟩
    · have hz : decide (k < E.length) = false := decide_eq_false hlt
      obtain rfl : k = E.length := by omega
      have HW : Hid (succL E d = ((E.take E.length).drop fi).map (·.2)) := by
        show _ = _
        unfold succL
        rw [withIn_seg hk0 hk (fun i hi h => by have := (HF.out i hi).1 h; omega) (fun i hi h1 h2 => HD.out i hi h1 h2) (fun i hi h => by omega)]
      clear HD hlt
      gi_wp2
      gi_quiet (fail)
      gi_wp2
      go_end0
      exact ⟨⟨_, rfl⟩, .inl ⟨_, HPR.out.trans HW.out.symm, abides_below hJa hJ (by repeat (first | assumption | exact Below.refl _ _ | apply bw_alloc | apply bw_drew | apply bw_drewN | apply bw_later | apply bw_step))⟩⟩
end Go.Proofs.Ythlpndgfphjlkaa

namespace Go.Proofs.Ythlpndgfphjlkaa
open Go.RowKit Go.Shelf
set_option linter.unusedVariables false

theorem successors_in (m n : Nat) (A : Option Addr) (c : Nat) (E : List (Int × Int)) (d : Int) (w : World) :
    CallsIn Fence.wide m Try.prog 39 #[.agg #[.int .i64 (n : Nat), .slice A E.length c], .int .i64 d] w fun e w' => e = .returned (.func (.func 55) #[] #[.pointer (some ⟨w.heap.size, 0, none⟩), .pointer (some ⟨w.heap.size + 1, 0, none⟩)]) ∧ w' = (w.alloc (.cells #[.int .i64 (n : Nat), .slice A E.length c] 28)).alloc (.cells #[.int .i64 d] 3) := by
  refine callsIn_of_wp Try.func39 rfl trivial ?_ rfl
  simp only [Try.ntmps39, List.size_toArray, List.length_cons, List.length_nil, Nat.reduceAdd, Nat.reduceSub, Array.replicate_succ, Array.replicate_zero, List.push_toArray, List.append_toArray, List.nil_append, List.cons_append]
  gi_wp2
  go_ret
  exact ⟨by simp, rfl⟩
theorem succ_stops (m g1 g2 n₀ n : Nat) (A : Option Addr) (c : Nat) (E : List (Int × Int)) (d : Int) (hm : 1 ≤ m) (S : Nat → Prop) (S1 : S g1) (S2 : S g2) (hG : Hid (GrOk n E)) (w0 w : World) (hw0 : w0.heap.size = n₀) (hn0 : n₀ ≤ w.heap.size) (h1 : Box w g1 [.int .i64 (n : Nat), .slice A E.length c] 28) (h2 : Box w g2 [.int .i64 d] 3) (hww : Below n₀ w0 w) (hs : Sl Lay.int2 w0 A E) :
    SeqStopsK Fence.wide m Try.prog 55 #[.pointer (some ⟨g1, 0, none⟩), .pointer (some ⟨g2, 0, none⟩)] (encS (E := E) (d := d)) (KpS n₀ S) (fun ys => ys.map (·.1) = succL E d) (fun _ => True) 40000 w := fun l J Jx W hW hJ _ hY h0 => by
  have := succ1_in m l g1 g2 n₀ n A c E d hm S S1 S2 hG J Jx W hJ hY (Nat.le_trans hn0 hW.size) (h1.mono hW) (h2.mono hW) w0 hw0 (hww.trans (hW.mono hn0)) hs h0
  exact this
end Go.Proofs.Ythlpndgfphjlkaa

namespace Go.Proofs.Ythlpndgfphjlkaa
open Go.RowKit
set_option linter.unusedVariables false

theorem boolTy : ElemTy Try.prog 36 4 1 1 (.bool false) := ⟨Try.underlying36, by kernel_rfl, rfl, by omega⟩
/-- 'append(s, y)', and where the new row lies. -/
theorem run_pushAt {P : Program} {α : Type} {cells : α → List Value} {t e : TypeId} {size bytes : Nat} {z : Value} (T : ElemTy P t e size bytes z) (hc : CellsOk cells size) (ty : TypeId) {base : Nat} {w : World} {v : Value} {l : List α} (hown : Own cells size base e w v l) (y : α) (g c : Nat)
    (hy : ∀ j u, (cells y)[j]? = some u → w.cell? ⟨g, j, none⟩ = some u) (h63 : l.length + 1 ≤ maxLen) (hbytes : (l.length + 1) * bytes ≤ 140737488355328) (hbase : base ≤ w.heap.size) :
    ∃ v' w', (Builtin.append_ #[t, t] ty #[v, .slice (some ⟨g, 0, none⟩) 1 c]).run P w = .ok v' w' ∧ Own cells size base e w' v' (l ++ [y]) ∧ w.grownBy w' v.ownBlock ∧ (v'.ownBlock = v.ownBlock ∨ v'.ownBlock = some w.heap.size) := by
  obtain ⟨i, hi, hz, hsz, hby⟩ := info_parts T.info
  obtain ⟨v', w', hr, ho, hg, _, hat⟩ := run_append_own_at (P := P) w base t ty e i z size bytes T.under hi hz hsz hby T.zero T.pos v l.length (l.flatMap cells) hown ⟨g, 0, none⟩ 1 c (cells y)
    (by rw [hc.len, Nat.one_mul]) (fun j u hu => by rw [add_form, Nat.zero_add]; exact hy j u hu) (hc.one y) h63 hbytes hbase
  refine ⟨v', w', hr, ?_, hg, hat⟩
  unfold Own
  rw [List.flatMap_append, List.length_append, List.flatMap_singleton]
  exact ho

/-- From W to W' only the blocks rv and go and the row of v have turned; v' lies in v's row or in a new block. -/
structure Turn (rv go : Nat) (v : Value) (W : World) (v' : Value) (W' : World) : Prop where
  os : W'.os = W.os
  tape : W'.tape = W.tape
  output : W'.output = W.output
  size : W.heap.size ≤ W'.heap.size
  blk : ∀ b, b < W.heap.size → b ≠ rv → b ≠ go → v.ownBlock ≠ some b → W'.heap[b]? = W.heap[b]?
  row : v'.ownBlock = v.ownBlock ∨ ∃ b, v'.ownBlock = some b ∧ W.heap.size ≤ b
section
variable {rv go : Nat} {v v1 v2 : Value} {W W1 W2 : World}
theorem Turn.refl : Turn rv go v W v W := ⟨rfl, rfl, rfl, Nat.le_refl _, fun _ _ _ _ _ => rfl, Or.inl rfl⟩
theorem Turn.trans (h : Turn rv go v W v1 W1) (k : Turn rv go v1 W1 v2 W2) : Turn rv go v W v2 W2 := by
  refine ⟨k.os.trans h.os, k.tape.trans h.tape, k.output.trans h.output, Nat.le_trans h.size k.size, fun b hb h1 h2 h3 => ?_, ?_⟩
  · refine (k.blk b (Nat.lt_of_lt_of_le hb h.size) h1 h2 ?_).trans (h.blk b hb h1 h2 h3)
    rcases h.row with e | ⟨b', e, hb'⟩
    · rw [e]; exact h3
    · rw [e]
      intro e2
      injection e2 with e2
      omega
  · rcases k.row with e | ⟨b, e, hb⟩
    · rw [e]; exact h.row
    · exact Or.inr ⟨b, e, Nat.le_trans h.size hb⟩
theorem Turn.grown {row : Option Nat} (h : Turn rv go v W v1 W1) (hg : W1.grownBy W2 row) (hrow : ∀ b, row = some b → W.heap.size ≤ b) : Turn rv go v W v1 W2 :=
  ⟨hg.os.trans h.os, hg.tape.trans h.tape, hg.output.trans h.output, Nat.le_trans h.size hg.size, fun b hb h1 h2 h3 => (hg.block b (Nat.lt_of_lt_of_le hb h.size) (fun e => by have := hrow b e.symm; omega)).trans (h.blk b hb h1 h2 h3), h.row⟩
theorem Turn.mono (h : Turn rv go v W v1 W1) (hb : Below W1.heap.size W1 W2) : Turn rv go v W v1 W2 := h.grown (row := none) ⟨hb.os, hb.tape, hb.output, hb.size, fun k hk _ => hb.block k hk⟩ (fun b e => by cases e)
theorem Turn.below {base : Nat} (h : Turn rv go v W v1 W1) (hs : base ≤ W.heap.size) (h1 : base ≤ rv) (h2 : base ≤ go) (h3 : ∀ b, v.ownBlock = some b → base ≤ b) : Below base W W1 :=
  ⟨h.os, h.tape, h.output, h.size, fun b hb => h.blk b (by omega) (by omega) (by omega) (fun e => by have := h3 b e; omega)⟩
theorem Turn.kpS {base : Nat} {S : Nat → Prop} (h : Turn rv go v W v1 W1) (hs : base ≤ W.heap.size) (h1 : base ≤ rv) (h2 : base ≤ go) (h3 : ∀ b, v.ownBlock = some b → base ≤ b) (hS : ∀ b, S b → b ≠ rv ∧ b ≠ go ∧ v.ownBlock ≠ some b) : KpS base S W W1 :=
  ⟨h.below hs h1 h2 h3, fun b cs t fz hb hc => (h.blk b (Array.getElem?_eq_some_iff.1 hc).1 (hS b hb).1 (hS b hb).2.1 (hS b hb).2.2).trans hc⟩
end

/-- The lists of a search in memory: which nodes have been met, and a list that grows. -/
structure Vis (base gv go rv : Nat) (seen : List Bool) (L : List Nat) (v : Value) (W : World) : Prop where
  bv : Box W gv [.slice (some ⟨rv, 0, none⟩) seen.length seen.length] 36
  ov : Own (fun x : Bool => [Value.bool x]) 1 base 4 W (.slice (some ⟨rv, 0, none⟩) seen.length seen.length) seen
  bo : Box W go [v] 38
  oo : Own cellsInt 1 base 3 W v (L.map fun (x : Nat) => (x : Int))
  nv : base ≤ gv
  no : base ≤ go
  sz : base ≤ W.heap.size
section
variable {base gv go rv : Nat} {seen : List Bool} {L : List Nat} {v : Value} {W W' : World}
theorem Vis.keptN {row : Option Nat} (h : Vis base gv go rv seen L v W) (hg : W.grownBy W' row) (hr : ∀ r, row = some r → ∃ o : Obj, W.heap[r]? = some o ∧ o.isCells = false) : Vis base gv go rv seen L v W' :=
  ⟨h.bv.keptN hg hr, h.ov.keptN hg hr, h.bo.keptN hg hr, h.oo.keptN hg hr, h.nv, h.no, Nat.le_trans h.sz hg.size⟩
theorem Vis.mono (h : Vis base gv go rv seen L v W) (hb : Below W.heap.size W W') : Vis base gv go rv seen L v W' :=
  h.keptN (row := none) ⟨hb.os, hb.tape, hb.output, hb.size, fun k hk _ => hb.block k hk⟩ (fun r e => by cases e)
theorem Vis.row (h : Vis base gv go rv seen L v W) : ∀ b, v.ownBlock = some b → base ≤ b ∧ b < W.heap.size := fun b hb => World.ownsRow.lt h.oo b hb
theorem Vis.rvs (h : Vis base gv go rv seen L v W) : base ≤ rv ∧ rv < W.heap.size := h.ov.ge1
theorem Vis.ne1 (h : Vis base gv go rv seen L v W) : rv ≠ go := fun e => by
  have := h.ov.ne_box h.bo (by decide)
  exact this (by rw [e]; rfl)
theorem Vis.ne2 (h : Vis base gv go rv seen L v W) : rv ≠ gv := fun e => by
  have := h.ov.ne_box h.bv (by decide)
  exact this (by rw [e]; rfl)
theorem Vis.ne3 (h : Vis base gv go rv seen L v W) : gv ≠ go := fun e => by
  have h1 := h.bv
  have h2 := h.bo
  rw [e] at h1
  unfold Box at h1 h2
  rw [h1] at h2
  injection h2 with h2
  injection h2 with _ h2
  exact absurd h2 (by decide)
theorem Vis.cells (h : Vis base gv go rv seen L v W) : (∃ o : Obj, W.heap[rv]? = some o ∧ o.isCells = true) ∧ (∃ o : Obj, W.heap[go]? = some o ∧ o.isCells = true) ∧ ∀ b, v.ownBlock = some b → ∃ o : Obj, W.heap[b]? = some o ∧ o.isCells = true := by
  refine ⟨?_, ⟨_, h.bo, rfl⟩, fun b hb => ?_⟩
  · rcases h.ov.2 with ⟨e, _⟩ | ⟨g, cap, cur, e, _, hh, _⟩
    · cases e
    · obtain rfl : rv = g := by injection e with e; injection e with e; injection e
      exact ⟨_, hh, rfl⟩
  · rcases h.oo.2 with ⟨e, _⟩ | ⟨g, cap, cur, e, _, hh, _⟩
    · rw [e] at hb; cases hb
    · rw [e] at hb
      obtain rfl : g = b := by simpa [Value.ownBlock] using hb
      exact ⟨_, hh, rfl⟩
theorem Turn.others {v' : Value} (h : Vis base gv go rv seen L v W) (k : Turn rv go v W v' W') : KeepsOthers W W' := by
  obtain ⟨⟨o1, h1, c1⟩, ⟨o2, h2, c2⟩, h3⟩ := h.cells
  refine ⟨k.size, fun j o hj hc => ?_⟩
  refine (k.blk j (Array.getElem?_eq_some_iff.1 hj).1 (fun e => ?_) (fun e => ?_) (fun e => ?_)).trans hj
  · subst e; rw [h1] at hj; injection hj with hj; subst hj; rw [hc] at c1; cases c1
  · subst e; rw [h2] at hj; injection hj with hj; subst hj; rw [hc] at c2; cases c2
  · obtain ⟨o3, h3, c3⟩ := h3 j e
    rw [h3] at hj; injection hj with hj; subst hj; rw [hc] at c3; cases c3
theorem Vis.bel {v' : Value} (h : Vis base gv go rv seen L v W) (k : Turn rv go v W v' W') : Below base W W' := k.below h.sz h.rvs.1 h.no (fun b hb => (h.row b hb).1)
theorem Vis.mark (h : Vis base gv go rv seen L v W) (x : Nat) : Vis base gv go rv (seen.set x true) L v (W.setCell ⟨rv, x, none⟩ (.bool true)) ∧ Turn rv go v W v (W.setCell ⟨rv, x, none⟩ (.bool true)) := by
  have hg := grown_set W rv x (.bool true)
  refine ⟨⟨?_, ?_, ?_, ?_, h.nv, h.no, Nat.le_trans h.sz hg.size⟩, ⟨hg.os, hg.tape, hg.output, hg.size, fun b hb h1 _ _ => hg.block b hb (fun e => h1 (by injection e)), Or.inl rfl⟩⟩
  · rw [List.length_set]
    exact h.bv.grown hg (fun e => h.ne2 (by injection e with e; exact e.symm))
  · rw [List.length_set]
    exact h.ov.set1 rfl x true
  · exact h.bo.grown hg (fun e => h.ne1 (by injection e with e; exact e.symm))
  · exact h.oo.kept_other h.ov (by decide) hg
theorem Vis.push (h : Vis base gv go rv seen L v W) (x : Nat) (hl : L.length ≤ 100000) :
    ∃ A m c, v = .slice A m c ∧ ∃ v' w', (Builtin.append_ #[38, 38] 38 #[.slice A m c, .slice (some ⟨W.heap.size, 0, none⟩) 1 1]).run Try.prog (W.alloc (.cells #[.int .i64 (x : Nat)] 3)) = .ok v' w' ∧ Box w' go [.slice A m c] 38 ∧ (∃ B q d, v' = .slice B q d) ∧
      Vis base gv go rv seen (L ++ [x]) v' (w'.setCell ⟨go, 0, none⟩ v') ∧ Turn rv go v W v' (w'.setCell ⟨go, 0, none⟩ v') := by
  have h1 := h.mono (bw_alloc (o := .cells #[.int .i64 (x : Nat)] 3) (Below.refl _ _))
  have hsz := h.sz
  obtain ⟨v', w', hr, ho, hg, hat⟩ := run_pushAt intTy cellsInt_ok 38 h1.oo (x : Int) W.heap.size 1 (cells_one_new _ _ _) (by rw [List.length_map]; unfold maxLen; omega) (by rw [List.length_map]; omega) (by simp; omega)
  obtain ⟨A, m, c, rfl⟩ := h.oo.isSl
  have bv' := h1.bv.grown hg (h1.oo.ne_box h1.bv (by decide))
  have ov' := h1.ov.kept_other h1.oo (by decide) hg
  have bo' := h1.bo.grown hg (h1.oo.ne_box h1.bo (by decide))
  have hgs := grown_set w' go 0 v'
  refine ⟨A, m, c, rfl, v', w', hr, bo', ho.isSl, ⟨bv'.grown hgs (fun e => h.ne3 (by injection e)), ov'.kept_box bo' (by decide) hgs, bo'.set 0 v', ?_, h.nv, h.no, ?_⟩, ⟨?_, ?_, ?_, ?_, fun b hb k1 k2 k3 => ?_, ?_⟩⟩
  · rw [List.map_append]
    exact ho.kept_box bo' (by decide) hgs
  · have := hg.size; have := hgs.size; simp at *; omega
  · exact hgs.os.trans hg.os
  · exact hgs.tape.trans hg.tape
  · exact hgs.output.trans hg.output
  · have := hg.size; have := hgs.size; simp at *; omega
  · have e1 : (W.alloc (.cells #[.int .i64 (x : Nat)] 3)).heap[b]? = W.heap[b]? := (bw_alloc (Below.refl W.heap.size W)).block b hb
    have e2 := hg.block b (by simp; omega) (fun e => k3 e.symm)
    have e3 := hgs.block b (by have := hg.size; simp at *; omega) (fun e => k2 (by injection e))
    exact (e3.trans e2).trans e1
  · rcases hat with e | e
    · exact Or.inl e
    · exact Or.inr ⟨_, e, by simp⟩
end
def VisR (base gv go rv : Nat) (seen : List Bool) (L : List Nat) (v : Value) (x : Nat) (W W' : World) : Prop := ∃ v', Vis base gv go rv (visitS seen L x).1 (visitS seen L x).2 v' W' ∧ Turn rv go v W v' W'
set_option maxRecDepth 100000 in
set_option maxHeartbeats 1000000 in
theorem visit_any (base gv go rv : Nat) (seen : List Bool) (L : List Nat) (v : Value) (x : Nat) (W : World) (h : Vis base gv go rv seen L v W) (hx : x < seen.length) (hn : seen.length ≤ 100000) (hl : L.length ≤ 100000) :
    Calls Try.prog 38 #[.int .i64 (x : Nat), .pointer (some ⟨gv, 0, none⟩), .pointer (some ⟨go, 0, none⟩)] W fun e W' => (∃ u, e = .returned u) ∧ VisR base gv go rv seen L v x W W' := by
  have p0 := h.bv.cell 0 rfl
  have pl := h.bv.lt
  have c0 := h.ov.at1 rfl hx
  have rl := h.rvs.2
  have rf := h.ov.free1 rfl x
  have hxI : (x : Int) < (seen.length : Int) := by omega
  cases hs : seen[x] with
  | true =>
    have HV : Hid (visitS seen L x = (seen, L)) := by show _ = _; unfold visitS; rw [List.getD_eq_getElem?_getD, List.getElem?_eq_getElem hx, hs]; rfl
    rw [hs] at c0
    clear hs
    go_enter Try.func38, Try.ntmps38
    go_wp2_with fail
    go_end0
    exact ⟨⟨_, rfl⟩, by unfold VisR; rw [HV.out]; exact ⟨v, h, Turn.refl⟩⟩
  | false =>
    have HV : Hid (visitS seen L x = (seen.set x true, L ++ [x])) := by show _ = _; unfold visitS; rw [List.getD_eq_getElem?_getD, List.getElem?_eq_getElem hx, hs]; rfl
    rw [hs] at c0
    clear hs
    obtain ⟨h1, t1⟩ := h.mark x
    go_enter Try.func38, Try.ntmps38
    go_upto_region 2 with fail
    clear p0 pl c0 rl rf h
    generalize World.setCell _ _ _ = W1 at *
    obtain ⟨A, m, c, rfl, v', w', hrun, hbx, ⟨B, q, d, rfl⟩, h2, t2⟩ := h1.push x hl
    have q0 := h1.bo.cell 0 rfl
    have ql := h1.bo.lt
    have z0 := hbx.cell 0 rfl
    have zl := hbx.lt
    have zf := fun i => hbx.free i
    have HT := Lib.hid (t1.trans t2)
    go_wp2_with (at_builtin; refine wpList_appendRun rfl (.tmp 12) (.tmp 14) 38 rfl rfl rfl hrun ?_)
    go_end0
    exact ⟨⟨_, rfl⟩, by unfold VisR; rw [HV.out]; exact ⟨_, h2, HT.out⟩⟩
end Go.Proofs.Ythlpndgfphjlkaa

namespace Go.Proofs.Ythlpndgfphjlkaa
open Go.RowKit Go.Shelf
set_option linter.unusedVariables false
attribute [local go_sem] Oper.semAt_some

/-- A box of another type stays. -/
theorem Box.turn {base gv go rv b : Nat} {seen : List Bool} {L : List Nat} {v v' : Value} {W W' : World} {cs : List Value} {t : TypeId} (h : Box W b cs t) (hv : Vis base gv go rv seen L v W) (k : Turn rv go v W v' W') (h1 : 4 ≠ t) (h2 : 38 ≠ t) (h3 : 3 ≠ t) : Box W' b cs t := by
  refine (k.blk b h.lt (fun e => ?_) (fun e => ?_) (fun e => hv.oo.ne_box h h3 e.symm)).trans h
  · exact hv.ov.ne_box h h1 (by rw [e]; rfl)
  · subst e
    have h' : W.heap[b]? = some (.cells cs.toArray t (0, 0)) := h
    have h2' : W.heap[b]? = some (.cells [v].toArray 38 (0, 0)) := hv.bo
    rw [h'] at h2'
    injection h2' with h2'
    injection h2' with _ h2'
    exact h2 h2'.symm
/-- What the memory of the search holds. -/
structure RM (base gv go rv gf : Nat) (gs fs : List Value) (seen : List Bool) (L : List Nat) (v : Value) (w W : World) : Prop where
  vis : Vis base gv go rv seen L v W
  bg : Box W base gs 28
  bf : Box W gf fs 68
  bel : Below base w W
theorem RM.mono {base gv go rv gf : Nat} {gs fs : List Value} {seen : List Bool} {L : List Nat} {v : Value} {w W W' : World} (h : RM base gv go rv gf gs fs seen L v w W) (hb : Below W.heap.size W W') : RM base gv go rv gf gs fs seen L v w W' :=
  ⟨h.vis.mono hb, h.bg.mono hb, h.bf.mono hb, h.bel.trans (hb.mono h.vis.sz)⟩
theorem RM.turn {base gv go rv gf : Nat} {gs fs : List Value} {seen seen' : List Bool} {L L' : List Nat} {v v' : Value} {w W W' : World} (h : RM base gv go rv gf gs fs seen L v w W) (hv : Vis base gv go rv seen' L' v' W') (k : Turn rv go v W v' W') : RM base gv go rv gf gs fs seen' L' v' w W' :=
  ⟨hv, h.bg.turn h.vis k (by decide) (by decide) (by decide), h.bf.turn h.vis k (by decide) (by decide) (by decide), h.bel.trans (h.vis.bel k)⟩
/-- The marks of the loops that have been left. -/
def coll (Ds : List Nat) : List Deferred := Ds.map fun D => { target := .collected D, args := #[] }
structure Marks (B : Nat) (Ds : List Nat) (W : World) : Prop where
  at_ : ∀ D ∈ Ds, B ≤ D ∧ W.heap[D]? = some (.deferred (some []))
  nd : Ds.Nodup
theorem Marks.nil {B : Nat} {W : World} : Marks B [] W := ⟨fun D h => by simp at h, List.nodup_nil⟩
theorem Marks.lt {B : Nat} {Ds : List Nat} {W : World} (h : Marks B Ds W) {D : Nat} (hD : D ∈ Ds) : D < W.heap.size := (Array.getElem?_eq_some_iff.1 (h.at_ D hD).2).1
theorem Marks.mono {B : Nat} {Ds : List Nat} {W W' : World} (h : Marks B Ds W) (hb : Below W.heap.size W W') : Marks B Ds W' := ⟨fun D hD => ⟨(h.at_ D hD).1, (hb.block D (h.lt hD)).trans (h.at_ D hD).2⟩, h.nd⟩
theorem Marks.turn {base gv go rv : Nat} {seen : List Bool} {L : List Nat} {v v' : Value} {B : Nat} {Ds : List Nat} {W W' : World} (h : Marks B Ds W) (hv : Vis base gv go rv seen L v W) (k : Turn rv go v W v' W') : Marks B Ds W' :=
  ⟨fun D hD => ⟨(h.at_ D hD).1, (k.others hv).same D _ (h.at_ D hD).2 rfl⟩, h.nd⟩
theorem Marks.cons {B D : Nat} {Ds : List Nat} {W : World} (h : Marks B Ds W) (hB : B ≤ D) (hD : W.heap[D]? = some (.deferred (some []))) (hn : ∀ D' ∈ Ds, D' ≠ D) : Marks B (D :: Ds) W :=
  ⟨fun D' hD' => by
    rcases List.mem_cons.1 hD' with e | hD'
    · subst e; exact ⟨hB, hD⟩
    · exact h.at_ D' hD', List.nodup_cons.2 ⟨fun hm => hn D hm rfl, h.nd⟩⟩
theorem KpS.refl {B : Nat} {S : Nat → Prop} (W : World) : KpS B S W W := ⟨Below.refl _ _, fun _ _ _ _ _ h => h⟩
theorem KpS.putD {B : Nat} {S : Nat → Prop} (W : World) (l : Nat) (o o' : Obj) (hB : B ≤ l) (h : W.heap[l]? = some o) (hc : o.isCells = false) : KpS B S W (W.putObj l o') := by
  have hl := (Array.getElem?_eq_some_iff.1 h).1
  refine ⟨(Below.refl B W).grown (grownBy_putObj' W l o') (by omega) (fun k e => by injection e with e; omega), fun b cs t fz _ hb => ?_⟩
  have hne : b ≠ l := fun e => by subst e; rw [h] at hb; injection hb with hb; subst hb; cases hc
  exact ((grownBy_putObj' W l o').block b (Array.getElem?_eq_some_iff.1 hb).1 (fun e => hne (by injection e))).trans hb
/-- The marks are taken up one by one. -/
theorem leaves_coll {F : Fence} {m : Nat} {P : Program} {fn : Func} {tmps : Array Value} {R : Ending → World → Prop} {B : Nat} : ∀ (Ds : List Nat) (W : World), Marks B Ds W → (∀ W', KpS B (fun _ => True) W W' → LeavesInM F m P fn tmps R [] .returning W') → LeavesInM F m P fn tmps R (coll Ds) .returning W
  | [], W, _, k => k W (KpS.refl W)
  | D :: Ds, W, h, k => by
    have hD := h.at_ D List.mem_cons_self
    have hp : KpS B (fun _ => True) W (W.putObj D (.deferred none)) := KpS.putD W D _ _ hD.1 hD.2 rfl
    refine ⟨by simp, .inl ⟨D, _, rfl, run_takeDeferred hD.2, leaves_coll Ds _ ⟨fun D' hD' => ?_, (List.nodup_cons.1 h.nd).2⟩ fun W' hk => k W' (hp.trans hk)⟩⟩
    have h2 := h.at_ D' (List.mem_cons_of_mem _ hD')
    refine ⟨h2.1, ((grownBy_putObj' W D (.deferred none)).block D' (Array.getElem?_eq_some_iff.1 h2.2).1 (fun e => ?_)).trans h2.2⟩
    injection e with e
    subst e
    exact (List.nodup_cons.1 h.nd).1 hD'
theorem Own.keptS {B : Nat} {α : Type} {cells : α → List Value} {size base : Nat} {e : TypeId} {W W' : World} {v : Value} {l : List α} (h : Own cells size base e W v l) (hk : KpS B (fun _ => True) W W') : Own cells size base e W' v l := by
  refine ⟨h.1, ?_⟩
  rcases h.2 with h1 | ⟨g, cap, cur, h1, h2, h3, h4⟩
  · exact Or.inl h1
  · exact Or.inr ⟨g, cap, cur, h1, h2, hk.2 _ _ _ _ trivial h3, h4⟩
theorem mem_bitsTo {ws : List Nat} {m x : Nat} : (x : Int) ∈ bitsTo ws m ↔ x < m ∧ bitAt ws x = true := by
  unfold bitsTo
  rw [List.mem_map]
  constructor
  · rintro ⟨y, hy, e⟩
    obtain rfl : y = x := by omega
    rw [List.mem_filter, List.mem_range] at hy
    exact hy
  · rintro ⟨h1, h2⟩
    exact ⟨x, List.mem_filter.2 ⟨List.mem_range.2 h1, h2⟩, rfl⟩
/-- The list that is handed back. -/
def RetReach (E : List (Int × Int)) (s : Nat) (w w' : World) (e : Ending) : Prop := ∃ v R, e = .returned v ∧ Own cellsInt 1 w.heap.size 3 w' v R ∧ R.length ≤ 100000 ∧ (∀ x ∈ R, 0 ≤ x ∧ x < 100000) ∧ ∀ x : Nat, (x : Int) ∈ R ↔ RA E s none x
set_option maxRecDepth 100000 in
set_option maxHeartbeats 4000000 in
theorem reach_any (n s : Nat) (A B : Option Addr) (c cB : Nat) (E : List (Int × Int)) (w : World) (hG : Hid (GrOk n E)) (hsn : s < n) (hs : Sl Lay.int2 w A E) (hB : Sl Lay.int w B [(s : Int)]) :
    Calls Try.prog 21 #[.agg #[.int .i64 (n : Nat), .slice A E.length c], .slice B 1 cB] w fun e w' => RetReach E s w w' e ∧ Below w.heap.size w w' := by
  have hnn := hG.out.nn
  have hmk : ∀ W, (Instr.makeSlice 36 (.int .i64 (n : Nat)) (.int .i64 (n : Nat))).run Try.prog W = .ok (.slice (some ⟨W.heap.size, 0, none⟩) n n) (W.alloc (.cells (madeCells #[.bool false] n) 4)) := fun W => by
    have := boolTy.make .i64 .i64 n (by omega) (by omega) W
    rw [Nat.mul_one] at this
    exact this
  refine (callsIn_wide (n := 5)).1 ?_
  refine callsIn_of_wp_marks Try.func21 rfl trivial ?_ rfl
  simp only [Try.ntmps21, List.size_toArray, List.length_cons, List.length_nil, Nat.reduceAdd, Nat.reduceSub, Array.replicate_succ, Array.replicate_zero, List.push_toArray, List.append_toArray, List.nil_append, List.cons_append]
  have hb0 : Below w.heap.size w (w.alloc (.cells #[.int .i64 (n : Nat), .slice A E.length c] 28)) := (by repeat (first | assumption | exact Below.refl _ _ | apply bw_alloc | apply bw_drew | apply bw_drewN | apply bw_later | apply bw_step))
  have hbx : Box (w.alloc (.cells #[.int .i64 (n : Nat), .slice A E.length c] 28)) w.heap.size [.int .i64 (n : Nat), .slice A E.length c] 28 := Box.new _ _ _
  gi_wp2
  refine ⟨trivial, (callsIn_wide.2 (graphCheck_any n A c E _ hG (hs.mono hb0))).mono ?_⟩
  rintro e w1 ⟨rfl, hb1⟩
  have bg1 := hbx.mono hb1
  have hbw1 := below_step hb0 hb1
  have p0 := bg1.cell 0 rfl
  have p1 := bg1.cell 1 rfl
  have pl := bg1.lt
  clear hbx hb0 hb1
  gi_wp2
  generalize hW : World.alloc _ _ = W0
  have hM : RM w.heap.size (w1.heap.size + 1) (w1.heap.size + 2) w1.heap.size (w1.heap.size + 3) [.int .i64 (n : Nat), .slice A E.length c] [.func (.func 38) #[] #[.pointer (some ⟨w1.heap.size + 1, 0, none⟩), .pointer (some ⟨w1.heap.size + 2, 0, none⟩)]] (List.replicate n false) [] (.slice none 0 0) w W0 := by
    have hz := hbw1.size
    rw [← hW]
    refine ⟨⟨?_, ?_, ?_, Own.nil, by omega, by omega, by simp; omega⟩, ((((bg1.alloc _).alloc _).alloc _).alloc _), Box.at (by simp), bw_alloc (bw_alloc (bw_alloc (bw_alloc hbw1)))⟩
    · rw [List.length_replicate]
      exact ((Box.at (w := w1.alloc _) (by simp)).alloc _).alloc _
    · rw [List.length_replicate]
      exact (((Own.made (c := Value.bool) (.bool false) w1 n (List.replicate n false) (by simp) hz (by unfold maxLen; omega) (by simp)).alloc _).alloc _).alloc _
    · exact (Box.at (w := (w1.alloc _).alloc _) (by simp)).alloc _
  clear hW hmk bg1 hbw1 p0 p1 pl
  obtain ⟨b, o, rfl, hb, dB⟩ := hB.int_at (i := 0) (by simp)
  simp only [List.getElem_cons_zero, Nat.add_zero] at dB
  gi_loopw [23] (fun v23 wr => ∃ (k : Nat) (seen : List Bool) (L : List Nat) (v : Value), k ≤ 1 ∧ v23 = .int .i64 k ∧ RM w.heap.size (w1.heap.size + 1) (w1.heap.size + 2) w1.heap.size (w1.heap.size + 3) [.int .i64 (n : Nat), .slice A E.length c] [.func (.func 38) #[] #[.pointer (some ⟨w1.heap.size + 1, 0, none⟩), .pointer (some ⟨w1.heap.size + 2, 0, none⟩)]] seen L v w wr ∧ Hid ((k = 0 → seen = List.replicate n false ∧ L = []) ∧ (k = 1 → ReachI E n s 0 seen L))) (fun v23 _ => 1 - (intOf v23).toNat)
  case atStart => exact ⟨0, _, _, _, by omega, rfl, hM, fun _ => ⟨rfl, rfl⟩, fun h => by omega⟩
  case round =>
    clear hM
    obtain ⟨k, seen, L, v, hk, rfl, hM, HI⟩ := hrel
    have p0 := hM.bg.cell 0 rfl
    have p1 := hM.bg.cell 1 rfl
    have pl := hM.bg.lt
    have q0 := hM.bf.cell 0 rfl
    have ql := hM.bf.lt
    by_cases hk0 : k = 0
    · subst hk0
      obtain ⟨h1, h2⟩ := HI.out.1 rfl
      subst h1 h2
      have dBr := keptC dB hb hM.bel
      have hs2 : (decide ((0 : Int) ≤ (s : Int)) && decide ((s : Int) < (n : Int))) = true := by simp; omega
      clear HI
      gi_wp2
      refine ⟨trivial, (callsIn_wide.2 (node_any n (s : Int) _)).mono ?_⟩
      rw [hs2]
      rintro e w2 ⟨rfl, rfl⟩
      gi_wp2
      refine ⟨trivial, (callsIn_wide.2 (visit_any _ _ _ _ _ _ _ s _ hM.vis (by rw [List.length_replicate]; exact hsn) (by rw [List.length_replicate]; omega) (by simp))).mono ?_⟩
      rintro e w3 ⟨⟨u, rfl⟩, v3, hv3, ht3⟩
      have hM3 := hM.turn hv3 ht3
      clear hM p0 p1 pl q0 ql dBr
      gi_wp2
      go_roundw
      case rel => exact ⟨1, _, _, _, Nat.le_refl _, rfl, hM3, fun h => by omega, fun _ => ReachI.start hsn⟩
      case measure => simp [intOf]
    · obtain rfl : k = 1 := by omega
      have HI0 := Lib.hid (HI.out.2 rfl)
      clear HI hk0 hk p0 p1 pl q0 ql
      gi_wp2
--LOOP2
      obtain ⟨D0, HD0⟩ : ∃ D0 : List Deferred, Hid (D0 = []) := ⟨[], rfl⟩
      rw [← HD0.out]
      refine wpIn_loop (fun a' wr => ∃ (u10 u35 u36 u37 u38 u39 u40 u41 u42 u43 u44 u45 u46 : Value) (ds : List Deferred), (∃ (i : Nat) (seen : List Bool) (L : List Nat) (v : Value) (Ds : List Nat), u10 = .int .i64 i ∧ ds = coll Ds ∧ RM w.heap.size (w1.heap.size + 1) (w1.heap.size + 2) w1.heap.size (w1.heap.size + 3) [.int .i64 (n : Nat), .slice A E.length c] [.func (.func 38) #[] #[.pointer (some ⟨w1.heap.size + 1, 0, none⟩), .pointer (some ⟨w1.heap.size + 2, 0, none⟩)]] seen L v w wr ∧ Hid (ReachI E n s i seen L) ∧ Hid (Marks w.heap.size Ds wr)) ∧ a' = { tmps := #[.agg #[.int .i64 (n : Nat), .slice A E.length c], .slice (some ⟨b, o, none⟩) 1 cB, .pointer (some ⟨w.heap.size, 0, none⟩), undef, .slice none 0 0, .pointer (some ⟨w1.heap.size + 1, 0, none⟩), .pointer (some ⟨w1.heap.size + 2, 0, none⟩), .pointer (some ⟨w1.heap.size + 3, 0, none⟩), undef, u9, u10, undef, undef, undef, .agg #[.int .i64 (n : Nat), .slice A E.length c], .int .i64 0, .bool false, .pointer (some ⟨w.heap.size, 0, none⟩), .int .i64 (n : Nat), .slice (some ⟨w1.heap.size, 0, none⟩) n n, .func (.func 38) #[] #[.pointer (some ⟨w1.heap.size + 1, 0, none⟩), .pointer (some ⟨w1.heap.size + 2, 0, none⟩)], .slice (some ⟨b, o, none⟩) 1 cB, .int .i64 1, .int .i64 1, .bool false, u25, u26, u27, u28, u29, u30, u31, u32, u33, u34, u35, u36, u37, u38, u39, u40, u41, u42, u43, u44, u45, u46, undef, undef, undef, undef, undef, undef, undef, undef, undef, undef, undef], defers := ds }) (fun a' _ => n - (intOf (a'.tmps.getD 10 undef)).toNat) ?_ ?_
      · refine ⟨_, _, _, _, _, _, _, _, _, _, _, _, _, _, ⟨0, seen, L, v, [], rfl, HD0.out, hM, HI0, Marks.nil⟩, rfl⟩
      clear HD0 hM HI0
      clear D0 seen L v wr
      rintro _ wr ⟨u10, u35, u36, u37, u38, u39, u40, u41, u42, u43, u44, u45, u46, ds, ⟨i, seen, L, v, Ds, rfl, rfl, hM, HI, HD⟩, rfl⟩
      have p0 := hM.bg.cell 0 rfl
      have p1 := hM.bg.cell 1 rfl
      have pl := hM.bg.lt
      have q0 := hM.vis.bo.cell 0 rfl
      have ql := hM.vis.bo.lt
      have HIL := Lib.hid HI.out.le
      obtain ⟨A3, c3, hv3, hc3, hs3⟩ := hM.vis.oo.sl (L := Lay.int) rfl (fun x => rfl)
      rw [List.length_map] at hv3 hc3
      by_cases hlt : i < L.length
      · obtain ⟨b3, o3, rfl, hb3, d3⟩ := hs3.int_at (i := i) (by rw [List.length_map]; exact hlt)
        simp only [List.getElem_map] at d3
        subst hv3
        have hiI : (i : Int) < (L.length : Int) := by omega
        have hLn : L.length ≤ 10000 := by have := HIL.out; omega
        obtain ⟨x, hx⟩ : ∃ x, x = L[i] := ⟨_, rfl⟩
        rw [← hx] at d3
        have HX := Lib.hid hx
        clear hx hs3
        gi_upto_region 15 with fail
        refine wpIn_cut (fun a' wx => ∃ (u41 u42 u43 u44 u45 : Value), (Box wx wr.heap.size [.int .i64 (n : Nat), .slice A E.length c] 28 ∧ Box wx (wr.heap.size + 1) [.int .i64 (x : Nat)] 3 ∧ Below wr.heap.size wr wx ∧ wx.heap.size = wr.heap.size + 2) ∧ a' = { tmps := #[.agg #[.int .i64 (n : Nat), .slice A E.length c], .slice (some ⟨b, o, none⟩) 1 cB, .pointer (some ⟨w.heap.size, 0, none⟩), undef, .slice none 0 0, .pointer (some ⟨w1.heap.size + 1, 0, none⟩), .pointer (some ⟨w1.heap.size + 2, 0, none⟩), .pointer (some ⟨w1.heap.size + 3, 0, none⟩), undef, u9, .int .i64 i, undef, undef, undef, .agg #[.int .i64 (n : Nat), .slice A E.length c], .int .i64 0, .bool false, .pointer (some ⟨w.heap.size, 0, none⟩), .int .i64 (n : Nat), .slice (some ⟨w1.heap.size, 0, none⟩) n n, .func (.func 38) #[] #[.pointer (some ⟨w1.heap.size + 1, 0, none⟩), .pointer (some ⟨w1.heap.size + 2, 0, none⟩)], .slice (some ⟨b, o, none⟩) 1 cB, .int .i64 1, .int .i64 1, .bool false, u25, u26, u27, u28, u29, u30, u31, u32, u33, u34, .int .i64 i, .slice (some ⟨b3, o3, none⟩) L.length c3, .int .i64 L.length, .bool true, u39, u40, u41, u42, u43, u44, u45, .func (.func 55) #[] #[.pointer (some ⟨wr.heap.size, 0, none⟩), .pointer (some ⟨wr.heap.size + 1, 0, none⟩)], undef, undef, undef, undef, undef, undef, undef, undef, undef, undef, undef], defers := coll Ds }) ?rest ?first
        case first =>
          intro J K' hJ hK
          have hb1 := bw_drew (bw_alloc (o := .cells #[.int .i64 (x : Nat)] 3) (bw_alloc (o := .cells #[.int .i64 (n : Nat), .slice A E.length c] 28) (Below.refl wr.heap.size wr)))
          have hx1 : Box ((wr.alloc (.cells #[.int .i64 (n : Nat), .slice A E.length c] 28)).alloc (.cells #[.int .i64 (x : Nat)] 3)).drew wr.heap.size [.int .i64 (n : Nat), .slice A E.length c] 28 := (Box.new _ _ _).alloc _
          have hx2 : Box ((wr.alloc (.cells #[.int .i64 (n : Nat), .slice A E.length c] 28)).alloc (.cells #[.int .i64 (x : Nat)] 3)).drew (wr.heap.size + 1) [.int .i64 (x : Nat)] 3 := Box.at (by simp)
          first | gi_region_with (refine ⟨trivial, (successors_in 4 n A c E (x : Int) _).mono ?_⟩; rintro e w' ⟨rfl, rfl⟩) | fail
          all_goals (gi_wp2; gi_meet; exact ⟨hx1, hx2, hb1, by simp⟩)
        case rest =>
          rintro _ wx ⟨u41, u42, u43, u44, u45, ⟨hx1, hx2, hx3, hx4⟩, rfl⟩
          have hMx := hM.mono hx3
          have hbw := hM.bel
          have hsz := hM.vis.sz
          have hNS : ∀ b, b = wr.heap.size ∨ b = wr.heap.size + 1 → b ≠ w1.heap.size ∧ b ≠ w1.heap.size + 2 ∧ (Value.slice (some ⟨b3, o3, none⟩) L.length c3).ownBlock ≠ some b := fun b hb => by
            have h1 := hM.vis.rvs.2
            refine ⟨by omega, by omega, fun h2 => ?_⟩
            have e : b3 = b := by simpa [Value.ownBlock] using h2
            omega
          clear q0 ql p0 p1 pl d3 hb3 hc3
          gi_wp2
          refine wpIn_rangeFunc_ownG (w0 := wx) (a := { tmps := #[.agg #[.int .i64 (n : Nat), .slice A E.length c], .slice (some ⟨b, o, none⟩) 1 cB, .pointer (some ⟨w.heap.size, 0, none⟩), undef, .slice none 0 0, .pointer (some ⟨w1.heap.size + 1, 0, none⟩), .pointer (some ⟨w1.heap.size + 2, 0, none⟩), .pointer (some ⟨w1.heap.size + 3, 0, none⟩), undef, u9, .int .i64 i, undef, undef, undef, .agg #[.int .i64 (n : Nat), .slice A E.length c], .int .i64 0, .bool false, .pointer (some ⟨w.heap.size, 0, none⟩), .int .i64 (n : Nat), .slice (some ⟨w1.heap.size, 0, none⟩) n n, .func (.func 38) #[] #[.pointer (some ⟨w1.heap.size + 1, 0, none⟩), .pointer (some ⟨w1.heap.size + 2, 0, none⟩)], .slice (some ⟨b, o, none⟩) 1 cB, .int .i64 1, .int .i64 1, .bool false, u25, u26, u27, u28, u29, u30, u31, u32, u33, u34, .int .i64 i, .slice (some ⟨b3, o3, none⟩) L.length c3, .int .i64 L.length, .bool true, u39, u40, u41, u42, u43, u44, u45, .func (.func 55) #[] #[.pointer (some ⟨wr.heap.size, 0, none⟩), .pointer (some ⟨wr.heap.size + 1, 0, none⟩)], undef, undef, undef, undef, undef, undef, undef, undef, undef, undef, undef], defers := coll Ds }) rfl (by omega) (gf := 55) (lb := #[.pointer (some ⟨wr.heap.size, 0, none⟩), .pointer (some ⟨wr.heap.size + 1, 0, none⟩)]) rfl trivial (enters_of Try.func55 (by kernel_rfl) rfl)
            (succ_stops _ wr.heap.size (wr.heap.size + 1) w.heap.size n A c E (x : Int) (by omega) (fun b => b = wr.heap.size ∨ b = wr.heap.size + 1) (Or.inl rfl) (Or.inr rfl) hG w wx rfl hMx.vis.sz hx1 hx2 hMx.bel hs)
            (fun h k => h.trans k) (KpS.put hMx.vis.sz) (Below.refl _ _) (fun _ => rfl)
            (fun (pre : List (SucI E (x : Int))) W => ∃ seen' L' v', Vis w.heap.size (w1.heap.size + 1) (w1.heap.size + 2) w1.heap.size seen' L' v' W ∧ Turn w1.heap.size (w1.heap.size + 2) (.slice (some ⟨b3, o3, none⟩) L.length c3) wx v' W ∧ Hid (ReachI E n s i seen' L' ∧ (∀ y : Nat, (y : Int) ∈ pre.map (·.1) → y ∈ L') ∧ ∃ t, L' = L ++ t))
            (fun _ _ _ => False)
            (fun _ X Y row hs hg hr => by obtain ⟨seen', L', v', h1, h2, h3⟩ := hs; exact ⟨seen', L', v', h1.keptN hg (fun r e => (hr r e).2), h2.grown hg (fun r e => (hr r e).1), h3⟩)
            (fun _ _ _ _ _ hs _ _ => hs)
            ⟨seen, L, _, hMx.vis, Turn.refl, HI.out, fun y hy => by simp at hy, [], by simp⟩
            (fun y => { tmps := #[.agg #[.int .i64 (n : Nat), .slice A E.length c], .slice (some ⟨b, o, none⟩) 1 cB, .pointer (some ⟨w.heap.size, 0, none⟩), undef, .slice none 0 0, .pointer (some ⟨w1.heap.size + 1, 0, none⟩), .pointer (some ⟨w1.heap.size + 2, 0, none⟩), .pointer (some ⟨w1.heap.size + 3, 0, none⟩), undef, u9, .int .i64 i, .int .i64 y.1, undef, undef, .agg #[.int .i64 (n : Nat), .slice A E.length c], .int .i64 0, .bool false, .pointer (some ⟨w.heap.size, 0, none⟩), .int .i64 (n : Nat), .slice (some ⟨w1.heap.size, 0, none⟩) n n, .func (.func 38) #[] #[.pointer (some ⟨w1.heap.size + 1, 0, none⟩), .pointer (some ⟨w1.heap.size + 2, 0, none⟩)], .slice (some ⟨b, o, none⟩) 1 cB, .int .i64 1, .int .i64 1, .bool false, u25, u26, u27, u28, u29, u30, u31, u32, u33, u34, .int .i64 i, .slice (some ⟨b3, o3, none⟩) L.length c3, .int .i64 L.length, .bool true, u39, u40, u41, u42, u43, u44, u45, .func (.func 55) #[] #[.pointer (some ⟨wr.heap.size, 0, none⟩), .pointer (some ⟨wr.heap.size + 1, 0, none⟩)], .int .i64 y.1, undef, undef, undef, undef, undef, undef, undef, undef, undef, undef], defers := [] })
            ?assign ?body ?done ?stop
          case assign =>
            intro l y W K hK
            unfold encS
            gi_wp2
            exact hK
          case body =>
            rintro l pre y W ⟨seen', L', v', h1, h2, h3⟩ hlt2
            have bf := hMx.bf.turn hMx.vis h2 (by decide) (by decide) (by decide)
            have q0 := bf.cell 0 rfl
            have ql := bf.lt
            obtain ⟨k, hk⟩ : ∃ k : Nat, y.1 = (k : Int) := ⟨y.1.toNat, by have := (hG.out.rng _ y.2).2.2.1; dsimp only at this; omega⟩
            have hkn : k < n := by have := (hG.out.rng _ y.2).2.2.2; dsimp only at this; omega
            have HK : Hid (((x : Int), (k : Int)) ∈ E) := by have := y.2; rw [hk] at this; exact this
            have HY := Lib.hid hk
            have HRX : Hid (RA E s none x) := by show RA _ _ _ _; rw [HX.out]; exact HI.out.from_ _ (List.getElem_mem hlt)
            have hsl : k < seen'.length := by rw [h3.out.1.len]; exact hkn
            have hsl2 : seen'.length ≤ 100000 := by rw [h3.out.1.len]; omega
            have hLl : L'.length ≤ 100000 := by have := h3.out.1.le; omega
            rw [hk]
            clear hk
            gi_wp2
            refine ⟨trivial, (CallsIn.inRound l (callsIn_wide.2 (visit_any _ _ _ _ _ _ _ k _ h1 hsl hsl2 hLl))).mono ?_⟩
            rintro e W' ⟨⟨u, rfl⟩, v3, hv3, ht3⟩
            clear q0 ql
            gi_wp2
            refine ⟨(ht3.others h1).from _, ht3.kpS h1.sz h1.rvs.1 h1.no (fun b hb => (h1.row b hb).1) (fun b hb => ?_), _, _, _, hv3, h2.trans ht3, ?_⟩
            · obtain ⟨n1, n2, n3⟩ := hNS b hb
              refine ⟨n1, n2, fun e => ?_⟩
              rcases h2.row with e2 | ⟨b', e2, hb'⟩
              · exact n3 (e2 ▸ e)
              · rw [e] at e2
                injection e2 with e2
                omega
            · obtain ⟨g1, g2, t, g3⟩ := h3.out
              obtain ⟨k1, k2, t', k3⟩ := g1.visit hkn (.step HRX.out HK.out (by simp))
              refine ⟨k1, fun z hz => ?_, t ++ t', by rw [k3, g3, List.append_assoc]⟩
              rw [List.map_append, List.mem_append] at hz
              rcases hz with hz | hz
              · rw [k3]; exact List.mem_append_left _ (g2 z hz)
              · simp only [List.map_cons, List.map_nil, List.mem_singleton] at hz
                rw [HY.out] at hz
                obtain rfl : z = k := by omega
                exact k2
          case done =>
            rintro D ys W hD hys ⟨seen', L', v', h1, h2, h3⟩ hK
            have HN : Hid (ReachI E n s (i + 1) seen' L') := by
              obtain ⟨g1, g2, t, g3⟩ := h3.out
              have hi2 : i < L'.length := by rw [g3, List.length_append]; omega
              refine g1.next hi2 (fun z hz => g2 z ?_)
              rw [hys, mem_succL, HX.out]
              have : L'[i] = L[i] := by
                simp only [g3]
                rw [List.getElem_append_left hlt]
              rw [← this]; exact hz
            have HM2 : Hid (Marks w.heap.size (D :: Ds) W) := ((HD.out.mono hx3).turn hMx.vis h2).cons (Nat.le_trans hMx.vis.sz hD) hK (fun D' hD' => by have := (HD.out.mono hx3).lt hD'; omega)
            have hM2 := hMx.turn h1 h2
            clear h3 hys HD hM hMx h1 h2 hK
            gi_wp2
            refine ⟨⟨_, _, _, _, _, _, _, _, _, _, _, _, _, _, ⟨i + 1, _, _, _, D :: Ds, by go_num, rfl, hM2, HN, HM2⟩, rfl⟩, ?_⟩
            have := HIL.out
            show n - (intOf (.int .i64 ((i : Int) + 1))).toNat < n - (intOf (.int .i64 (i : Int))).toNat
            simp only [intOf]
            omega
          case stop =>
            rintro D c pre W _ _ h _
            exact h.elim
      · obtain rfl : i = L.length := by have := HI.out.il; omega
        subst hv3
        have HMEM := Lib.hid HI.out.done
        have HRNG : Hid (∀ x ∈ L.map (fun (x : Nat) => (x : Int)), 0 ≤ x ∧ x < 65536) := fun x hx => by
          obtain ⟨k, hk, rfl⟩ := List.mem_map.1 hx
          have := HI.out.rng hk
          omega
        clear HI hlt p0 p1 pl
        have hLl : L.length ≤ 10000 := by have := HIL.out; omega
        gi_wp2
        have hof := bitsOf_any A3 c3 (L.map fun (x : Nat) => (x : Int)) wr (by rw [List.length_map]; omega) HRNG hs3
        rw [List.length_map] at hof
        refine ⟨trivial, (callsIn_wide.2 hof).mono ?_⟩
        rintro e w4 ⟨⟨v4, rfl, ws, hws, hwl, ⟨A4, c4, rfl, hc4, hs4⟩, hbit⟩, hb4⟩
        have HBIT := Lib.hid hbit
        clear hbit
        gi_wp2
        refine ⟨trivial, (callsIn_wide.2 (bitsList_any A4 c4 ws w4 hwl hws hs4)).mono ?_⟩
        rintro e w5 ⟨⟨v5, rfl, ho5⟩, hb5⟩
        have hbel := hM.bel
        have hb45 := below_step hb4 hb5
        have hbw5 := hbel.trans (hb45.mono hM.vis.sz)
        have HD5 : Hid (Marks w.heap.size Ds w5) := HD.out.mono hb45
        have HRET : Hid (∀ W', KpS w.heap.size (fun _ => True) w5 W' → RetReach E s w W' (.returned v5)) := fun W' hk => by
          have ho6 := (ho5.keptS hk).base_le' (show w.heap.size ≤ w4.heap.size from Nat.le_trans hM.vis.sz hb4.size)
          have hlen := bitsTo_len ws (ws.length * 64)
          refine ⟨v5, _, rfl, ho6, by omega, fun x hx => ?_, fun x => ?_⟩
          · obtain ⟨k, hk1, rfl⟩ := List.mem_map.1 hx
            have := List.mem_range.1 (List.mem_filter.1 hk1).1
            omega
          · rw [mem_bitsTo, ← HMEM.out, HBIT.out]
            have key : bitAt ws x = true → x < ws.length * 64 := fun h => by
              refine Classical.byContradiction fun hn => ?_
              rw [bitAt_ge (by omega)] at h
              cases h
            rw [HBIT.out] at key
            simp only [decide_eq_true_eq, List.mem_map] at key ⊢
            constructor
            · rintro ⟨_, k, hk1, e⟩
              obtain rfl : k = x := by omega
              exact hk1
            · intro hx
              exact ⟨key ⟨x, hx, rfl⟩, x, hx, rfl⟩
        clear ho5 HBIT hs4 hs3 HMEM HRNG hM HD hb4 hb5 hb45 hof hbel
        gi_wp2
        refine leaves_coll Ds w5 HD5.out fun W' hk => ?_
        exact ⟨v5, results_tmp (t := 4) rfl _ _ _, HRET.out W' hk, hbw5.trans hk.1⟩
end Go.Proofs.Ythlpndgfphjlkaa

namespace Go.Proofs.Ythlpndgfphjlkaa
open Go.RowKit Go.Shelf
set_option linter.unusedVariables false
attribute [local go_sem] Oper.semAt_some

theorem count_lt {seen : List Bool} {x : Nat} (h : seen[x]? = some false) : seen.count true < seen.length := by
  have h1 := count_set h
  have h2 : (seen.set x true).count true ≤ (seen.set x true).length := List.count_le_length
  rw [List.length_set] at h2
  omega
set_option maxRecDepth 100000 in
set_option maxHeartbeats 4000000 in
theorem post1_any (n : Nat) (A : Option Addr) (c : Nat) (E : List (Int × Int)) (gv go rv gf : Nat) (w : World) (hG : Hid (GrOk n E)) (hs : Sl Lay.int2 w A E) : ∀ (m x : Nat) (seen : List Bool) (L : List Nat) (v : Value) (W : World),
    RM w.heap.size gv go rv gf [.int .i64 (n : Nat), .slice A E.length c] [.func (.func 78) #[] #[.pointer (some ⟨gv, 0, none⟩), .pointer (some ⟨w.heap.size, 0, none⟩), .pointer (some ⟨gf, 0, none⟩), .pointer (some ⟨go, 0, none⟩)]] seen L v w W → seen.length = n → x < n → seen[x]? = some false → n - seen.count true ≤ m → L.length ≤ seen.count true →
    Calls Try.prog 78 #[.int .i64 (x : Nat), .pointer (some ⟨gv, 0, none⟩), .pointer (some ⟨w.heap.size, 0, none⟩), .pointer (some ⟨gf, 0, none⟩), .pointer (some ⟨go, 0, none⟩)] W fun e W' => (∃ u, e = .returned u) ∧ ∃ K seen' v', Vis w.heap.size gv go rv seen' (L ++ K) v' W' ∧ Turn rv go v W v' W' ∧ DfsV E x seen K seen' := by
  intro m
  induction m with
  | zero =>
    intro x seen L v W hM hl hx hsx hm hL
    have := count_lt hsx
    omega
  | succ m ih =>
  intro x seen L v W hM hl hx hsx hm hL
  have hnn := hG.out.nn
  have HSX := Lib.hid hsx
  have hcl := count_lt hsx
  obtain ⟨h1, t1⟩ := hM.vis.mark x
  have hM1 := hM.turn h1 t1
  have c0 := hM.vis.ov.at1 rfl (i := x) (by omega)
  have cf := hM.vis.ov.free1 rfl x
  have cl := hM.vis.rvs.2
  have p0 := hM.vis.bv.cell 0 rfl
  have pl := hM.vis.bv.lt
  have hxI : (x : Int) < (seen.length : Int) := by omega
  have HL := Lib.hid hl
  have HMM := Lib.hid hm
  refine (callsIn_wide (n := 5)).1 ?_
  refine callsIn_of_wp_marks Try.func78 rfl trivial ?_ rfl
  simp only [Try.ntmps78, List.size_toArray, List.length_cons, List.length_nil, Nat.reduceAdd, Nat.reduceSub, Array.replicate_succ, Array.replicate_zero, List.push_toArray, List.append_toArray, List.nil_append, List.cons_append]
  gi_upto_region 1 with fail
  clear p0 pl c0 cf cl hM
  generalize World.setCell _ _ _ = W1 at *
  have g0 := hM1.bg.cell 0 rfl
  have g1 := hM1.bg.cell 1 rfl
  have gl := hM1.bg.lt
  gi_wp2
  refine ⟨trivial, (successors_in _ n A c E (x : Int) W1).mono ?_⟩
  rintro e w' ⟨rfl, rfl⟩
  gi_wp2
  generalize hW2 : World.alloc _ _ = W2
  have hb2 : Below W1.heap.size W1 W2 := by rw [← hW2]; exact bw_alloc (bw_alloc (Below.refl _ _))
  have hx1 : Box W2 W1.heap.size [.int .i64 (n : Nat), .slice A E.length c] 28 := by rw [← hW2]; exact (Box.new _ _ _).alloc _
  have hx2 : Box W2 (W1.heap.size + 1) [.int .i64 (x : Nat)] 3 := by rw [← hW2]; exact Box.at (by simp)
  have hz2 : W2.heap.size = W1.heap.size + 2 := by rw [← hW2]; simp
  have hzW := Nat.le_trans t1.size hb2.size
  clear hW2 g0 g1 gl
  have hMx := hM1.mono hb2
  have hNS : ∀ b, b = W1.heap.size ∨ b = W1.heap.size + 1 → b ≠ rv ∧ b ≠ go ∧ v.ownBlock ≠ some b := fun b hb => by
    have h1 := hM1.vis.rvs.2
    have h2 := hM1.vis.bo.lt
    refine ⟨by omega, by omega, fun h3 => ?_⟩
    have := (hM1.vis.row b h3).2
    omega
  refine wpIn_rangeFunc_ownG (w0 := W2) rfl (by omega) (gf := 55) (lb := #[.pointer (some ⟨W1.heap.size, 0, none⟩), .pointer (some ⟨W1.heap.size + 1, 0, none⟩)]) rfl trivial (enters_of Try.func55 (by kernel_rfl) rfl)
    (succ_stops _ W1.heap.size (W1.heap.size + 1) w.heap.size n A c E (x : Int) (by omega) (fun b => b = W1.heap.size ∨ b = W1.heap.size + 1) (Or.inl rfl) (Or.inr rfl) hG w W2 rfl hMx.vis.sz hx1 hx2 hMx.bel hs)
    (fun h k => h.trans k) (KpS.put hMx.vis.sz) (Below.refl _ _) (fun _ => rfl)
    (fun (pre : List (SucI E (x : Int))) W => ∃ seen1 M v1, Vis w.heap.size gv go rv seen1 (L ++ M) v1 W ∧ Turn rv go v W2 v1 W ∧ Hid (DfsM E x (seen.set x true) (pre.map Subtype.val) M seen1))
    (fun _ _ _ => False)
    (fun _ X Y row hs hg hr => by obtain ⟨seen1, M, v1, h1, h2, h3⟩ := hs; exact ⟨seen1, M, v1, h1.keptN hg (fun r e => (hr r e).2), h2.grown hg (fun r e => (hr r e).1), h3⟩)
    (fun _ _ _ _ _ hs _ _ => hs)
    ⟨seen.set x true, [], v, by rw [List.append_nil]; exact hMx.vis, Turn.refl, DfsM.init⟩
    (fun y => { tmps := #[.int .i64 (x : Nat), .pointer (some ⟨gv, 0, none⟩), .pointer (some ⟨w.heap.size, 0, none⟩), .pointer (some ⟨gf, 0, none⟩), .pointer (some ⟨go, 0, none⟩), undef, .int .i64 y.1, .slice (some ⟨rv, 0, none⟩) n n, .int .i64 (x : Nat), .pointer (some ⟨rv, x, none⟩), .agg #[.int .i64 (n : Nat), .slice A E.length c], .int .i64 (x : Nat), .func (.func 55) #[] #[.pointer (some ⟨W1.heap.size, 0, none⟩), .pointer (some ⟨W1.heap.size + 1, 0, none⟩)], .int .i64 y.1, undef, undef, undef, undef, undef, undef, undef, undef, undef, undef, undef, undef], defers := [] })
    ?assign ?body ?done ?stop
  case assign =>
    intro l y W K hK
    unfold encS
    gi_wp2
    exact hK
  case body =>
    rintro l pre y W ⟨seen1, M, v1, h1, h2, h3⟩ hlt2
    have hMW := hMx.turn h1 h2
    have q0 := hMW.bf.cell 0 rfl
    have ql := hMW.bf.lt
    have r0 := h1.bv.cell 0 rfl
    have rl := h1.bv.lt
    obtain ⟨k, hk⟩ : ∃ k : Nat, y.1 = (k : Int) := ⟨y.1.toNat, by have := (hG.out.rng _ y.2).2.2.1; dsimp only at this; omega⟩
    have hkn : k < n := by have := (hG.out.rng _ y.2).2.2.2; dsimp only at this; omega
    have HE : Hid (((x : Int), (k : Int)) ∈ E) := by have := y.2; rw [hk] at this; exact this
    have HY := Lib.hid hk
    have hs1 : seen1.length = n := by rw [h3.out.len, List.length_set]; exact HL.out
    have hk1 : k < seen1.length := by omega
    have d0 := h1.ov.at1 rfl hk1
    have dl := h1.rvs.2
    have HS1 := Lib.hid hs1
    have hkI : (k : Int) < (seen1.length : Int) := by omega
    rw [hk]
    clear hk hs1
    cases hsk : seen1[k] with
    | true =>
      have HN : Hid (DfsM E x (seen.set x true) ((pre ++ [y]).map Subtype.val) M seen1) := by
        show DfsM _ _ _ _ _ _
        rw [List.map_append, List.map_cons, List.map_nil, HY.out]
        exact h3.out.old (by rw [List.getElem?_eq_getElem hk1, hsk])
      rw [hsk] at d0
      clear hsk
      gi_wp2
      exact ⟨KeepsFrom.refl _ _, KpS.refl _, seen1, M, v1, h1, h2, HN⟩
    | false =>
      have HSF : Hid (seen1[k]? = some false) := by show _ = _; rw [List.getElem?_eq_getElem hk1, hsk]
      rw [hsk] at d0
      clear hsk
      have HC : Hid (n - seen1.count true ≤ m) := by
        show _ ≤ _
        have e1 := h3.out.cnt
        have e2 := count_set HSX.out
        have := HMM.out
        omega
      have HLL : Hid ((L ++ M).length ≤ seen1.count true) := by
        show _ ≤ _
        have e1 := h3.out.cnt
        have e2 := count_set HSX.out
        rw [List.length_append]
        omega
      gi_wp2
      refine ⟨trivial, (CallsIn.inRound l (callsIn_wide.2 (ih k seen1 (L ++ M) v1 W hMW HS1.out hkn HSF.out HC.out HLL.out))).mono ?_⟩
      rintro e W' ⟨⟨u, rfl⟩, K, seen2, v3, hv3, ht3, hd3⟩
      have HN : Hid (DfsM E x (seen.set x true) ((pre ++ [y]).map Subtype.val) (M ++ K) seen2) := by
        show DfsM _ _ _ _ _ _
        rw [List.map_append, List.map_cons, List.map_nil, HY.out]
        exact h3.out.new HE.out hd3
      rw [List.append_assoc] at hv3
      clear q0 ql r0 rl d0 hd3
      gi_wp2
      refine ⟨(ht3.others h1).from _, ht3.kpS h1.sz h1.rvs.1 h1.no (fun b hb => (h1.row b hb).1) (fun b hb => ?_), _, _, _, hv3, h2.trans ht3, HN⟩
      obtain ⟨n1, n2, n3⟩ := hNS b hb
      refine ⟨n1, n2, fun e => ?_⟩
      rcases h2.row with e2 | ⟨b', e2, hb'⟩
      · exact n3 (e2 ▸ e)
      · rw [e] at e2
        injection e2 with e2
        omega
  case done =>
    rintro D ys W hD hys ⟨seen1, M, v1, h1, h2, h3⟩ hK
    have HDV : Hid (DfsV E x seen (M ++ [x]) seen1) := h3.out.done HSX.out (fun y hy => by
      show _ ∈ _
      rw [show ys.map Subtype.val = succL E (x : Int) from hys]
      exact mem_succL.2 hy)
    have hLM : (L ++ M).length ≤ 100000 := by
      have e1 := h3.out.cnt
      have e2 := count_set HSX.out
      have e3 : seen1.count true ≤ seen1.length := List.count_le_length
      have e4 := h3.out.len
      rw [List.length_set] at e4
      rw [List.length_append]
      omega
    obtain ⟨A1, m1, c1, rfl, v', w', hrun, hbx, ⟨B, q, d, rfl⟩, hv5, ht5⟩ := h1.push x hLM
    have q0 := h1.bo.cell 0 rfl
    have ql := h1.bo.lt
    have z0 := hbx.cell 0 rfl
    have zl := hbx.lt
    have zf := fun i => hbx.free i
    have HT := Lib.hid (((t1.mono hb2).trans h2).trans ht5)
    rw [List.append_assoc] at hv5
    have hK5 := (ht5.others h1).same D _ hK rfl
    clear h3 hys
    gi_wp2_with (gi_at_builtin; refine wpListIn_appendRun rfl (.tmp 22) (.tmp 24) 38 rfl rfl rfl hrun ?_)
    refine ⟨by simp, .inl ⟨_, _, rfl, run_takeDeferred hK5, ?_⟩⟩
    have hgp := grownBy_putObj' (w'.setCell ⟨go, 0, none⟩ (.slice B q d)) D (.deferred none)
    exact ⟨_, results_none rfl _ _ _, ⟨_, rfl⟩, M ++ [x], seen1, _, hv5.keptN hgp (fun r e => by injection e with e; subst e; exact ⟨_, hK5, rfl⟩), HT.out.grown hgp (fun b e => by injection e with e; subst e; exact Nat.le_trans hzW hD), HDV.out⟩
  case stop =>
    rintro D c pre W _ _ h _
    exact h.elim
/-- The list that is handed back. -/
def RetPost (E : List (Int × Int)) (n s : Nat) (w w' : World) (e : Ending) : Prop := ∃ v post, e = .returned v ∧ Own cellsInt 1 w.heap.size 3 w' v (post.map fun (x : Nat) => (x : Int)) ∧ PostOk E n s post
set_option maxRecDepth 100000 in
set_option maxHeartbeats 2000000 in
theorem postorder_any (n s : Nat) (A : Option Addr) (c : Nat) (E : List (Int × Int)) (w : World) (hG : Hid (GrOk n E)) (hsn : s < n) (hs : Sl Lay.int2 w A E) :
    Calls Try.prog 60 #[.agg #[.int .i64 (n : Nat), .slice A E.length c], .int .i64 (s : Nat)] w fun e w' => RetPost E n s w w' e ∧ Below w.heap.size w w' := by
  have hnn := hG.out.nn
  have hmk : ∀ W, (Instr.makeSlice 36 (.int .i64 (n : Nat)) (.int .i64 (n : Nat))).run Try.prog W = .ok (.slice (some ⟨W.heap.size, 0, none⟩) n n) (W.alloc (.cells (madeCells #[.bool false] n) 4)) := fun W => by
    have := boolTy.make .i64 .i64 n (by omega) (by omega) W
    rw [Nat.mul_one] at this
    exact this
  have hs2 : (decide ((0 : Int) ≤ (s : Int)) && decide ((s : Int) < (n : Int))) = true := by simp; omega
  have hb0 : Below w.heap.size w (w.alloc (.cells #[.int .i64 (n : Nat), .slice A E.length c] 28)) := (by repeat (first | assumption | exact Below.refl _ _ | apply bw_alloc | apply bw_drew | apply bw_drewN | apply bw_later | apply bw_step))
  have hbx : Box (w.alloc (.cells #[.int .i64 (n : Nat), .slice A E.length c] 28)) w.heap.size [.int .i64 (n : Nat), .slice A E.length c] 28 := Box.new _ _ _
  replace hs2 := Lib.hid hs2
  go_enter Try.func60, Try.ntmps60
  go_wp2_with fail
  refine (graphCheck_any n A c E _ hG (hs.mono hb0)).mono ?_
  rintro e w1 ⟨rfl, hb1⟩
  have bg1 := hbx.mono hb1
  have hbw1 := below_step hb0 hb1
  have p0 := bg1.cell 0 rfl
  have p1 := bg1.cell 1 rfl
  have pl := bg1.lt
  clear hbx hb0 hb1
  go_wp2_with fail
  refine (node_any n (s : Int) _).mono ?_
  rw [hs2.out]
  rintro e w2 ⟨rfl, rfl⟩
  go_upto_region 7 with fail
  generalize hW : World.alloc _ _ = W0
  have hM : RM w.heap.size (w1.heap.size + 1) (w1.heap.size + 2) w1.heap.size (w1.heap.size + 3) [.int .i64 (n : Nat), .slice A E.length c] [.func (.func 78) #[] #[.pointer (some ⟨w1.heap.size + 1, 0, none⟩), .pointer (some ⟨w.heap.size, 0, none⟩), .pointer (some ⟨w1.heap.size + 3, 0, none⟩), .pointer (some ⟨w1.heap.size + 2, 0, none⟩)]] (List.replicate n false) [] (.slice none 0 0) w W0 := by
    have hz := hbw1.size
    rw [← hW]
    refine ⟨⟨?_, ?_, ?_, Own.nil, by omega, by omega, by simp; omega⟩, ((((bg1.alloc _).alloc _).alloc _).alloc _), Box.at (by simp), bw_alloc (bw_alloc (bw_alloc (bw_alloc hbw1)))⟩
    · rw [List.length_replicate]
      exact ((Box.at (w := w1.alloc _) (by simp)).alloc _).alloc _
    · rw [List.length_replicate]
      exact (((Own.made (c := Value.bool) (.bool false) w1 n (List.replicate n false) (by simp) hz (by unfold maxLen; omega) (by simp)).alloc _).alloc _).alloc _
    · exact (Box.at (w := (w1.alloc _).alloc _) (by simp)).alloc _
  clear hW hmk bg1 hbw1 p0 p1 pl hs2
  have q0 := hM.bf.cell 0 rfl
  have ql := hM.bf.lt
  go_wp2_with fail
  refine (post1_any n A c E (w1.heap.size + 1) (w1.heap.size + 2) w1.heap.size (w1.heap.size + 3) w hG hs n s (List.replicate n false) [] (.slice none 0 0) W0 hM (by simp) hsn (by rw [List.getElem?_replicate, if_pos hsn]) (by omega) (by simp)).mono ?_
  rintro e w3 ⟨⟨u, rfl⟩, K, seen', v', hv, ht, hd⟩
  rw [List.nil_append] at hv
  have HP : Hid (PostOk E n s K) := hd.post
  have r0 := hv.bo.cell 0 rfl
  have rl := hv.bo.lt
  have hbel := hM.bel.trans (hM.vis.bel ht)
  have ho := hv.oo
  clear hM hv ht hd q0 ql
  go_wp2_with fail
  go_ret
  exact ⟨⟨_, _, rfl, ho, HP.out⟩, hbel⟩
end Go.Proofs.Ythlpndgfphjlkaa
