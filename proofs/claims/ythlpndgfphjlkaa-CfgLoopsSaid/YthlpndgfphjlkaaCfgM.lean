/-
  Chapter 4: graph.Make at edges between nodes.
-/
import Derived.Test.YthlpndgfphjlkaaEdgeS
namespace Go.Proofs.Ythlpndgfphjlkaa
open Go.RowKit Go.Sort Go.Shelf
set_option linter.unusedVariables false

theorem node_any (n v : Int) (w : World) :
    Calls Try.prog 30 #[.int .i64 n, .int .i64 v] w fun e w' => e = .returned (.bool (decide (0 ≤ v) && decide (v < n))) ∧ w = w' := by
  by_cases h0 : 0 ≤ v <;> by_cases h1 : v < n
  all_goals (go_enter Try.func30, Try.ntmps30; go_wp2_with fail; go_ret; exact ⟨by simp [h0, h1], rfl⟩)

theorem cloneEdge_any (A : Option Addr) (c : Nat) (l : List (Int × Int)) (w : World) (hl : l.length ≤ 32768) (hs : Sl Lay.int2 w A l) :
    Calls Try.prog 31 #[.slice A l.length c] w fun e w' => (∃ v, e = .returned v ∧ Own cellsInt2 2 w.heap.size 33 w' v l) ∧ RowKit.Below w.heap.size w w' := by
  have q22 : ∀ (w : World) (a : Option Addr) (n c n' c' : Nat), (binOp .eql 26 (.slice a n c) (.slice none n' c')).run Try.prog w = .ok (.bool a.isNone) w := fun w a n c n' c' => Lib.run_eql_slice_nil w _ _ a n c n' c' Try.underlying26
  cases A with
  | none =>
    obtain rfl := hs.none_nil
    go_enter Try.func31, Try.ntmps31
    go_wp2_with fail
    go_ret
    exact ⟨⟨_, rfl, Own.nil⟩, Below.refl _ _⟩
  | some ad =>
    have ho : Own cellsInt2 2 w.heap.size 33 (w.alloc (.cells #[] 33)) (.slice (some ⟨w.heap.size, 0, none⟩) 0 0) ([] : List (Int × Int)) := Own.lit w #[] [] (Nat.le_refl _) (by decide) rfl rfl
    obtain ⟨v', w', hrun, ho', hb', hg', hsz'⟩ := run_pushAll (L := Lay.int2) edgeTy cellsInt2_ok 26 ho (c := c) (fun x vs h => h) rfl (hs.mono (bw_alloc (Below.refl _ _))) (by unfold maxLen; simp; omega) (by simp; omega) (by simp)
    go_enter Try.func31, Try.ntmps31
    go_wp2_with (at_builtin; refine wpList_appendRun rfl (.tmp 5) (.tmp 6) 26 rfl rfl rfl hrun ?_)
    go_ret
    exact ⟨⟨_, rfl, ho'⟩, (bw_alloc (Below.refl _ _)).trans hb'⟩

theorem sortEdges_nil (w : World) :
    Calls Try.prog 32 #[.slice none 0 0, .func (.func 33) #[] #[]] w fun e w' => e = .returned (.tuple #[]) ∧ w' = w := by
  have hp := fun lim W => AnyF.pdqsortCmpFunc_none Try.pdqEdgeL none 0 lim (.func (.func 33) #[] #[]) W
  have HP := Lib.hid hp
  have hlb := Try.bits_Len 0
  have HLB := Lib.hid hlb
  clear hp hlb
  go_enter Try.func32, Try.ntmps32
  go_wp2_with fail
  refine (HLB.out _ (by omega) (by omega)).mono ?_
  rintro e w' ⟨rfl, rfl⟩
  go_wp2_with fail
  have hp := HP.out
  refine (hp _ _).mono ?_
  rintro e w1 ⟨rfl, rfl⟩
  go_wp2_with fail
  go_end0
  exact ⟨rfl, rfl⟩
theorem sortEdges_all (v : Value) (l : List (Int × Int)) (base : Nat) (w : World) (h : Own cellsInt2 2 base 33 w v l) (hl : l.length ≤ 100000) :
    Calls Try.prog 32 #[v, .func (.func 33) #[] #[]] w fun e w' => e = .returned (.tuple #[]) ∧ Own cellsInt2 2 base 33 w' v (sortP l) ∧ RowKit.Below base w w' := by
  rcases h.2 with ⟨rfl, h0⟩ | ⟨g, cap, cur, rfl, _⟩
  · have : l = [] := List.eq_nil_of_length_eq_zero h0
    subst this
    refine (sortEdges_nil w).mono ?_
    rintro e w' ⟨rfl, rfl⟩
    exact ⟨rfl, by simpa [sortP] using h, Below.refl _ _⟩
  · exact sortEdges_own g cap l base w h hl

/-- A graph whose row of edges is of the call's own making. -/
def RetGO (w w' : World) (n : Int) (l : List (Int × Int)) (e : Ending) : Prop := ∃ A c, e = .returned (.tuple #[.agg #[.int .i64 n, .slice A l.length c], .int .i64 0]) ∧ Own cellsInt2 2 w.heap.size 33 w' (.slice A l.length c) l
def inG (n : Int) (p : Int × Int) : Prop := 0 ≤ p.1 ∧ p.1 < n ∧ 0 ≤ p.2 ∧ p.2 < n
set_option maxRecDepth 100000 in
set_option maxHeartbeats 2000000 in
theorem make_any (n : Int) (A : Option Addr) (c : Nat) (l : List (Int × Int)) (w : World) (h0 : 0 ≤ n) (h1 : n ≤ 8192) (hr : Hid (∀ p ∈ l, inG n p)) (hl : l.length ≤ 32768) (hs : Sl Lay.int2 w A l) :
    Calls Try.prog 18 #[.int .i64 n, .slice A l.length c] w fun e w' => RetGO w w' n (ascP l) e ∧ RowKit.Below w.heap.size w w' := by
  have n1 : ¬ n < 0 := by omega
  have n2 : ¬ 8192 < n := by omega
  obtain ⟨R, HR⟩ : ∃ R, Hid (R = ascP l) := ⟨_, Lib.hid rfl⟩
  rw [← HR.out]
  go_enter Try.func18, Try.ntmps18
  go_wp2_with fail
  go_loopw [17] (fun i wr => ∃ k : Nat, k ≤ l.length ∧ i = .int .i64 k ∧ Box wr w.heap.size [.int .i64 0, .slice none 0 0] 28 ∧ RowKit.Below w.heap.size w wr) (fun i _ => l.length - (intOf i).toNat)
  case atStart => exact ⟨0, Nat.zero_le _, rfl, Box.new _ _ _, (by repeat (first | assumption | exact Below.refl _ _ | apply bw_alloc | apply bw_drew | apply bw_drewN | apply bw_later | apply bw_step))⟩
  case round =>
    obtain ⟨k, hk, rfl, hbx, hbw⟩ := hrel
    by_cases hlt : k < l.length
    · obtain ⟨b, o, rfl, hb, d0, d1⟩ := (hs.mono hbw).int2_at hlt
      have hin := hr.out _ (List.getElem_mem hlt)
      unfold inG at hin
      have t1 : (decide (0 ≤ l[k].1) && decide (l[k].1 < n)) = true := by simp; omega
      have t2 : (decide (0 ≤ l[k].2) && decide (l[k].2 < n)) = true := by simp; omega
      clear hin
      replace t1 := Lib.hid t1
      replace t2 := Lib.hid t2
      have hbx1 := hbx.alloc (.cells #[.int .i64 l[k].1, .int .i64 l[k].2] 33)
      have hbw1 : RowKit.Below w.heap.size w (wr.alloc (.cells #[.int .i64 l[k].1, .int .i64 l[k].2] 33)) := bw_alloc hbw
      go_wp2_with fail
      refine (node_any n l[k].1 _).mono ?_
      rw [t1.out]
      rintro e w1 ⟨rfl, rfl⟩
      go_wp2_with fail
      refine (node_any n l[k].2 _).mono ?_
      rw [t2.out]
      rintro e w1 ⟨rfl, rfl⟩
      go_wp2_with fail
      go_roundw
      case rel => exact ⟨k + 1, by omega, by go_num, hbx1, hbw1⟩
      case measure => simp [intOf]; omega
    · go_wp2_with fail
      refine (cloneEdge_any A c l _ hl (hs.mono hbw)).mono ?_
      rintro e w1 ⟨⟨v1, rfl, hv1⟩, hb1⟩
      go_wp2_with fail
      refine (sortEdges_all v1 l _ _ hv1 (by omega)).mono ?_
      rintro e w2 ⟨rfl, hv2, hb2⟩
      go_wp2_with fail
      refine (compactEdges_own v1 (sortP l) _ _ hv2 (by rw [sortP_len]; omega)).mono ?_
      rintro e w3 ⟨⟨v3, rfl, hv3⟩, hb3⟩
      have hv3' : Own cellsInt2 2 wr.heap.size 33 w3 v3 R := by rw [HR.out]; exact hv3
      have hRl : R.length ≤ 32768 := by rw [HR.out]; exact Nat.le_trans (ascP_len l) hl
      have hRl2 : ¬ (32768 : Int) < (R.length : Int) := by omega
      have hb4 := hb1.trans (hb2.trans hb3)
      have hbx4 := hbx.mono hb4
      have hbw4 := below_step hbw hb4
      obtain ⟨A3, c3, rfl, hc3, hs3⟩ := hv3'.sl (L := Lay.int2) rfl (fun x => rfl)
      have rl := hbx4.lt
      have r0 := hbx4.cell 0 rfl
      have r1 := hbx4.cell 1 rfl
      have rf := fun i => hbx4.free i
      obtain ⟨bx2, hg2⟩ := hbx4.store2 (.int .i64 n) (.slice A3 R.length c3)
      have q0 := bx2.cell 0 rfl
      have q1 := bx2.cell 1 rfl
      have hbw5 := hbw4.grown hg2 hbw4.size (fun k hk => by injection hk with hk; omega)
      have hown5 := hv3'.kept_box hbx4 (by decide) hg2
      clear hs3 hv3 hv3' hv2 hv1
      go_wp2_with fail
      refine bodyPost_ret (v := .tuple #[.agg #[.int .i64 n, .slice A3 R.length c3], .int .i64 0]) (by simp [results, Try.results18, go_sem, q0, q1]) rfl ⟨⟨A3, c3, rfl, hown5.base_le' hbw.size⟩, hbw5⟩
end Go.Proofs.Ythlpndgfphjlkaa
