/-
  Chapter 27: the program's 'starts', and its Check of a good graph whose edges all stay within functions.
-/
import Derived.Test.YtikjafgemaahlaaSupG
import Derived.Test.YtikjafgemaahlaaMapS
namespace Go.Proofs.Ytikjafgemaahlaa
open Go.RowKit
set_option linter.unusedVariables false

def cntI (l : List Nd) (x : Int) : Int := ((l.filter (fun n => decide (n.fn = x) && decide (n.kind ≠ 2))).length : Int)
theorem cntI_snoc (l : List Nd) (n : Nd) (x : Int) : cntI (l ++ [n]) x = if n.fn = x ∧ n.kind ≠ 2 then cntI l x + 1 else cntI l x := by
  unfold cntI
  rw [List.filter_append, List.length_append]
  by_cases h : n.fn = x ∧ n.kind ≠ 2
  · rw [if_pos h]; simp [h.1, h.2]
  · rw [if_neg h]
    have : (decide (n.fn = x) && decide (n.kind ≠ 2)) = false := by
      cases hh : (decide (n.fn = x) && decide (n.kind ≠ 2))
      · rfl
      · rw [Bool.and_eq_true, decide_eq_true_eq, decide_eq_true_eq] at hh; exact absurd hh h
    rw [List.filter_cons, this]; simp
theorem cntI_le (l : List Nd) (x : Int) : 0 ≤ cntI l x ∧ cntI l x ≤ l.length := by
  unfold cntI
  have := List.length_filter_le (fun n : Nd => decide (n.fn = x) && decide (n.kind ≠ 2)) l
  omega
structure Good (N : List Nd) (E : List Sed) : Prop where
  len : N.length ≤ 200
  lenE : E.length ≤ 200
  node : ∀ k (hk : k < N.length), 1 ≤ N[k].kind ∧ N[k].kind ≤ 4 ∧ 0 ≤ N[k].fn ∧ (N[k].kind = 2 → 0 ≤ N[k].instr) ∧ (N[k].kind ≠ 2 → N[k].instr = -1) ∧ ∀ h : 0 < k, ltN (N[k - 1]'(by omega)) N[k] = true
  ok : ∀ k (hk : k < N.length), okInt N[k].fn
  cnt : ∀ k (hk : k < N.length), cntI N N[k].fn = 3
  edge : ∀ k (hk : k < E.length), ∃ (i j : Nat) (hi : i < N.length) (hj : j < N.length), E[k] = ⟨i, j, 1, -1⟩ ∧ N[i].fn = N[j].fn ∧ (N[i].kind = 1 ∨ N[i].kind = 2) ∧ N[j].kind ≠ 1
  order : ∀ k (hk : k < E.length), ∀ h : 0 < k, ltE (E[k - 1]'(by omega)) E[k] = true

theorem intIntTy : MapTy Try.prog 49 3 3 (fun x : Int => .int .i64 x) okInt (fun x => .int .i64 x) (fun y : Int => .int .i64 y) okInt (fun y => .lit (.int .i64 y)) 0 := MapTy.int_int Try.underlying49 Try.underlying3 Try.underlying3 (fun w => rfl)

/-- A map of counts. -/
def Counts (w : World) (b : Nat) (N : List Nd) (k : Nat) : Prop := ∃ n f, n ≤ k ∧ MapIs intIntTy w b n f ∧ ∀ x, (f x).getD 0 = cntI (N.take k) x
theorem Counts.mono {w w' : World} {b k : Nat} {N : List Nd} (h : Counts w b N k) (hb : Below w.heap.size w w') : Counts w' b N k := by
  obtain ⟨n, f, h1, h2, h3⟩ := h
  exact ⟨n, f, h1, h2.mono hb, h3⟩
theorem Counts.lt {w : World} {b k : Nat} {N : List Nd} (h : Counts w b N k) : b < w.heap.size := by
  obtain ⟨n, f, h1, h2, h3⟩ := h
  exact h2.lt
theorem Counts.skip {w : World} {b k : Nat} {N : List Nd} (h : Counts w b N k) (hk : k < N.length) (h2 : N[k].kind = 2) : Counts w b N (k + 1) := by
  obtain ⟨n, f, h1, hm, h3⟩ := h
  refine ⟨n, f, by omega, hm, fun x => ?_⟩
  rw [h3, List.take_succ_eq_append_getElem hk, cntI_snoc, if_neg (fun h => h.2 h2)]
def Some1 (w : World) (b k : Nat) : Prop := ∃ n f, n ≤ k ∧ MapIs intIntTy w b n f
theorem Some1.mono {w w' : World} {b k : Nat} (h : Some1 w b k) (hb : Below w.heap.size w w') : Some1 w' b k := by
  obtain ⟨n, f, h1, h2⟩ := h
  exact ⟨n, f, h1, h2.mono hb⟩

theorem run_makeMap_none {P : Program} (t k e : TypeId) (ht : P.underlying t = some (.map k e)) (w : World) :
    (Instr.makeMap t none).run P w = .ok (.map (some w.heap.size)) (w.alloc (.map #[] 0)) := by
  simp [Instr.makeMap]
def RetS (e : Ending) : Prop := ∃ u, e = .returned (.tuple #[u, .bool true])
set_option maxRecDepth 100000 in
set_option maxHeartbeats 2000000 in
theorem starts_any (A0 A1 : Option Addr) (c0 c1 : Nat) (N : List Nd) (E : List Sed) (m : Int) (w : World) (hG : Hid (Good N E)) (hs : Sl Lay.nd w A0 N) :
    Calls Try.prog 24 #[.agg #[.slice A0 N.length c0, .slice A1 E.length c1, .int .i64 m]] w fun e w' => RetS e ∧ Below w.heap.size w w' := by
  have hl := hG.out.len
  have hmk := run_makeMap_none (P := Try.prog) 49 3 3 Try.underlying49
  go_enter Try.func24, Try.ntmps24
  go_upto_region 2 with fail
  generalize hW : World.alloc _ _ = W0
  have hb0 : Below w.heap.size w W0 := by rw [← hW]; exact (by repeat (first | assumption | exact Below.refl _ _ | apply bw_alloc | apply bw_drew | apply bw_drewN | apply bw_later | apply bw_step))
  have bx0 : Box W0 w.heap.size [.slice A0 N.length c0, .slice A1 E.length c1, .int .i64 m] 25 := by rw [← hW]; exact ((Box.new _ _ _).alloc _).alloc _
  have m1 : Some1 W0 (w.heap.size + 1) 0 := by rw [← hW]; exact ⟨0, fun _ => none, Nat.le_refl _, (MapIs.made0 intIntTy _ (by simp) (fun _ => rfl)).alloc _⟩
  have m2 : Counts W0 (w.heap.size + 1 + 1) N 0 := by rw [← hW]; exact ⟨0, fun _ => none, Nat.le_refl _, MapIs.made0 intIntTy _ (by simp) (fun _ => rfl), fun x => by simp [cntI]⟩
  clear hW hmk
  have x0 := bx0.cell 0 rfl
  have hbl := bx0.lt
  go_wp2_with fail
  go_loopw [6, 7, 15] (fun _ _ i wr => ∃ k : Nat, k ≤ N.length ∧ i = .int .i64 k ∧ Some1 wr (w.heap.size + 1) k ∧ Counts wr (w.heap.size + 1 + 1) N k ∧ Box wr w.heap.size [.slice A0 N.length c0, .slice A1 E.length c1, .int .i64 m] 25 ∧ Below w.heap.size w wr) (fun _ _ i _ => N.length - (intOf i).toNat)
  case atStart => exact ⟨0, Nat.zero_le _, rfl, m1, m2, bx0, hb0⟩
  case round =>
    obtain ⟨k, hk, rfl, hm1, hm2, bx, hbw⟩ := hrel
    clear x0 hbl m1 m2 bx0 hb0
    have x0 := bx.cell 0 rfl
    have hbl := bx.lt
    by_cases hlt : k < N.length
    · obtain ⟨b, o, eA, hb, d0, d1, d2⟩ := (hs.mono hbw).nd_at hlt
      subst eA
      go_upto_region 5 with fail
      generalize hW : World.alloc _ _ = W1
      have hb1 : Below wr.heap.size wr W1 := by rw [← hW]; exact (by repeat (first | assumption | exact Below.refl _ _ | apply bw_alloc | apply bw_drew | apply bw_drewN | apply bw_later | apply bw_step))
      have by1 : Box W1 wr.heap.size (cellsNd N[k]) 36 := by rw [← hW]; exact Box.new _ _ _
      clear hW
      have lmw := hm2.lt
      have hm1' := hm1.mono hb1
      have hm2' := hm2.mono hb1
      have bx1 := bx.mono hb1
      have hbw1 := below_step hbw hb1
      have l1 := bx1.lt
      have l2 := by1.lt
      have y0 := by1.cell 0 rfl
      have y1 := by1.cell 1 rfl
      have hbs := hbw.size
      have HOK : Hid (okInt N[k].fn) := hG.out.ok k hlt
      have HND := Lib.hid (hG.out.node k hlt)
      clear d0 d1 d2 x0 hb hbl hm1 hm2
      by_cases q2 : N[k].kind = 2
      · have HC := Lib.hid (hm2'.skip hlt q2)
        have HS : Hid (Some1 W1 (w.heap.size + 1) (k + 1)) := by obtain ⟨n, f, h1, h2⟩ := hm1'; exact ⟨n, f, by omega, h2⟩
        go_wp2_with fail
        go_roundw
        case rel => exact ⟨k + 1, by omega, by go_num, HS.out, HC.out, bx1, hbw1⟩
        case measure => simp [intOf]; omega
      · obtain ⟨n2, f2, hn2, hm2, hf2⟩ := hm2'
        obtain ⟨n1, f1, hn1, hm1⟩ := hm1'
        have lm1 := hm1.lt
        have lm2 := hm2.lt
        have HV := Lib.hid (hf2 N[k].fn)
        have hcle := cntI_le (N.take k) N[k].fn
        have htk : (N.take k).length ≤ 200 := by rw [List.length_take]; omega
        obtain ⟨c, HCC⟩ : ∃ c : Int, Hid (c = cntI (N.take k) N[k].fn) := ⟨_, Lib.hid rfl⟩
        have hc0 : 0 ≤ c ∧ c ≤ 200 := by rw [HCC.out]; omega
        have HPUT : Hid (∀ x, (putF f2 N[k].fn (c + 1) x).getD 0 = cntI (N.take (k + 1)) x) := fun x => by
          rw [List.take_succ_eq_append_getElem hlt, cntI_snoc]
          unfold putF
          by_cases hx : x = N[k].fn
          · rw [if_pos hx, if_pos ⟨hx.symm, q2⟩, HCC.out, hx]; rfl
          · rw [if_neg hx, if_neg (fun h => hx h.1.symm), hf2]
        clear hcle hf2 htk
        by_cases q1 : N[k].kind = 1
        · go_wp2_with (first | (at_mapUpdate; refine wpList_mapSet intIntTy rfl (.tmp 24) (.tmp 26) (.tmp 27) rfl (w.heap.size + 1) n1 f1 rfl hm1 (by unfold maxLen; omega) N[k].fn (k : Int) rfl rfl HOK.out (okInt_of (by omega) (by omega)) ?_; intro w2 hm1b hg2; have hm2b := hm2.kept hg2 (by simp); have by2 := by1.grown hg2 (by simp; omega); have ly2 := by2.lt; have yy0 := by2.cell 0 rfl; have hlk := hm2b.look (x := N[k].fn) HOK.out; rw [HV.out, ← HCC.out] at hlk) | (at_mapUpdate; refine wpList_mapSet intIntTy rfl (.tmp 28) (.tmp 30) (.tmp 32) rfl (w.heap.size + 1 + 1) n2 f2 rfl hm2b (by unfold maxLen; omega) N[k].fn (c + 1) rfl rfl HOK.out (okInt_of (by omega) (by omega)) ?_; intro w3 hm3 hg3))
          have hw2s := hg2.size
          have hg23 : Below w.heap.size w w3 := (hbw1.grown hg2 hbw1.size (fun k hk => by injection hk with hk; omega)).grown hg3 (Nat.le_trans hbw1.size hw2s) (fun k hk => by injection hk with hk; omega)
          go_roundw
          case rel => exact ⟨k + 1, by omega, by go_num, ⟨n1 + 1, _, by omega, hm1b.kept hg3 (by simp)⟩, ⟨n2 + 1, _, by omega, hm3, HPUT.out⟩, (bx1.grown hg2 (by simp)).grown hg3 (by simp; omega), hg23⟩
          case measure => simp [intOf]; omega
        · have hlk := hm2.look (x := N[k].fn) HOK.out
          rw [HV.out, ← HCC.out] at hlk
          have e1 : (N[k].kind == 1) = false := by simpa using q1
          have q34 : N[k].kind = 3 ∨ N[k].kind = 4 := by have := HND.out; omega
          rcases q34 with q3 | q3
          · go_wp2_with (at_mapUpdate; refine wpList_mapSet intIntTy rfl (.tmp 36) (.tmp 38) (.tmp 40) rfl (w.heap.size + 1 + 1) n2 f2 rfl hm2 (by unfold maxLen; omega) N[k].fn (c + 1) rfl rfl HOK.out (okInt_of (by omega) (by omega)) ?_; intro w3 hm3 hg3)
            have hg23 : Below w.heap.size w w3 := hbw1.grown hg3 hbw1.size (fun k hk => by injection hk with hk; omega)
            go_roundw
            case rel => exact ⟨k + 1, by omega, by go_num, ⟨n1, _, by omega, hm1.kept hg3 (by simp)⟩, ⟨n2 + 1, _, by omega, hm3, HPUT.out⟩, bx1.grown hg3 (by simp; omega), hg23⟩
            case measure => simp [intOf]; omega
          · go_wp2_with (at_mapUpdate; refine wpList_mapSet intIntTy rfl (.tmp 36) (.tmp 38) (.tmp 40) rfl (w.heap.size + 1 + 1) n2 f2 rfl hm2 (by unfold maxLen; omega) N[k].fn (c + 1) rfl rfl HOK.out (okInt_of (by omega) (by omega)) ?_; intro w3 hm3 hg3)
            have hg23 : Below w.heap.size w w3 := hbw1.grown hg3 hbw1.size (fun k hk => by injection hk with hk; omega)
            go_roundw
            case rel => exact ⟨k + 1, by omega, by go_num, ⟨n1, _, by omega, hm1.kept hg3 (by simp)⟩, ⟨n2 + 1, _, by omega, hm3, HPUT.out⟩, bx1.grown hg3 (by simp; omega), hg23⟩
            case measure => simp [intOf]; omega
    · have HM : Hid (Counts wr (w.heap.size + 1 + 1) N N.length) := by
        rw [show k = N.length by omega] at hm2; exact hm2
      go_wp2_with fail
      obtain ⟨wo, rfl⟩ : ∃ wo : World, wo = wr := ⟨_, rfl⟩
      go_loopw [9, 45] (fun _ i wr => ∃ j : Nat, j ≤ N.length ∧ i = .int .i64 j ∧ Hid (Counts wr (w.heap.size + 1 + 1) N N.length) ∧ Below w.heap.size w wr) (fun _ i _ => N.length - (intOf i).toNat)
      case atStart => exact ⟨0, Nat.zero_le _, rfl, HM, hbw⟩
      case round =>
        obtain ⟨j, hj, rfl, HM2, hbj⟩ := hrel
        by_cases hjt : j < N.length
        · obtain ⟨b, o, eA, hb, d0, d1, d2⟩ := (hs.mono hbj).nd_at hjt
          subst eA
          obtain ⟨n2, f2, hn2, hm2', hf2⟩ := HM2.out
          have hlk := fun o => (hm2'.alloc o).look (x := N[j].fn) (hG.out.ok j hjt)
          rw [hf2, List.take_length, hG.out.cnt j hjt] at hlk
          clear hf2
          go_wp2_with fail
          go_roundw
          case rel => exact ⟨j + 1, by omega, by go_num, HM2.out.mono (bw_alloc (Below.refl _ _)), bw_alloc hbj⟩
          case measure => simp [intOf]; omega
        · go_wp2_with fail
          go_ret2
          exact ⟨⟨_, rfl⟩, hbj⟩
end Go.Proofs.Ytikjafgemaahlaa
