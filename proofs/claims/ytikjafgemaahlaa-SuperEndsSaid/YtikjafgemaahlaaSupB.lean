/-
  Chapter 27: super.Out, In, Node, Start, Exit, and the law's own 'in'.
-/
import Derived.Test.YtikjafgemaahlaaSupA
namespace Go.Proofs.Ytikjafgemaahlaa
open Go.RowKit
set_option linter.unusedVariables false

/-- The indices of the elements of which p holds. -/
def idxs {α : Type} (p : α → Bool) (l : List α) : Nat → List Int
  | 0 => []
  | k + 1 => if (l[k]?.map p).getD false then idxs p l k ++ [(k : Int)] else idxs p l k
theorem idxs_succ {α : Type} (p : α → Bool) (l : List α) (k : Nat) : idxs p l (k + 1) = if (l[k]?.map p).getD false then idxs p l k ++ [(k : Int)] else idxs p l k := rfl
theorem idxs_len {α : Type} (p : α → Bool) (l : List α) : ∀ k, (idxs p l k).length ≤ k
  | 0 => Nat.le_refl _
  | k + 1 => by
    have := idxs_len p l k
    unfold idxs
    split
    · simp; omega
    · omega
theorem mem_idxs {α : Type} {p : α → Bool} {l : List α} {i : Nat} (hi : i < l.length) (h : p l[i] = true) : ∀ k, i < k → (i : Int) ∈ idxs p l k
  | 0, hk => by omega
  | k + 1, hk => by
    unfold idxs
    by_cases e : i = k
    · subst e
      simp [List.getElem?_eq_getElem hi, h]
    · have := mem_idxs hi h k (by omega)
      split
      · simp [this]
      · exact this

theorem intTy : ElemTy Try.prog 30 3 1 8 (.int .i64 0) := ⟨Try.underlying30, by kernel_rfl, rfl, by omega⟩
theorem cells_one_at {w : World} {g : Nat} (hg : w.heap.size = g) (u : Value) (t : TypeId) : ∀ j v, [u][j]? = some v → (w.alloc (.cells #[u] t)).cell? ⟨g, j, none⟩ = some v := by
  subst hg; exact cells_one_new w u t

set_option maxHeartbeats 2000000 in
theorem out_any (A0 A1 : Option Addr) (c0 c1 : Nat) (N : List Nd) (E : List Sed) (m n : Int) (w : World) (hl : E.length ≤ 1000000) (hs : Sl Lay.sed w A1 E) :
    Calls Try.prog 7 #[.agg #[.slice A0 N.length c0, .slice A1 E.length c1, .int .i64 m], .int .i64 n] w fun e w' => ∃ v, e = .returned v ∧ Own cellsInt 1 w.heap.size 3 w' v (idxs (fun x => decide (x.src = n)) E E.length) ∧ Below w.heap.size w w' := by
  have hb0 : Below w.heap.size w (w.alloc (.cells #[.slice A0 N.length c0, .slice A1 E.length c1, .int .i64 m] 25)) := (by repeat (first | assumption | exact Below.refl _ _ | apply bw_alloc | apply bw_drew | apply bw_drewN | apply bw_later | apply bw_step))
  go_enter Try.func7, Try.ntmps7
  go_wp2_with fail
  go_loopw [5, 6, 7, 11] (fun v i6 i7 i wr => ∃ k : Nat, k ≤ E.length ∧ i = .int .i64 k ∧ Hid (Own cellsInt 1 w.heap.size 3 wr v (idxs (fun x => decide (x.src = n)) E k)) ∧ Below w.heap.size w wr) (fun _ _ _ i _ => E.length - (intOf i).toNat)
  case atStart => exact ⟨0, Nat.zero_le _, rfl, Own.nil, hb0⟩
  case round =>
    obtain ⟨k, hk, rfl, HO, hbw⟩ := hrel
    have hsz := hbw.size
    by_cases hlt : k < E.length
    · obtain ⟨b, o, rfl, hb, d0, d1, d2, d3⟩ := (hs.mono hbw).sed_at hlt
      have hlen := idxs_len (fun x : Sed => decide (x.src = n)) E k
      by_cases hq : E[k].src = n
      · have HE : Hid (idxs (fun x => decide (x.src = n)) E (k + 1) = idxs (fun x => decide (x.src = n)) E k ++ [(k : Int)]) := by
          show idxs _ _ _ = _
          rw [idxs_succ]; simp [List.getElem?_eq_getElem hlt, hq]
        go_wp2_with (at_builtin; refine wpList_push intTy cellsInt_ok rfl (.tmp 20) (.tmp 22) rfl w.heap.size _ (idxs (fun x => decide (x.src = n)) E k) rfl ((HO.out.alloc _).alloc _) (k : Int) _ _ rfl (cells_one_at (by simp) _ _) (by unfold maxLen; omega) (by omega) (by simp; omega) ?_; intro v1 w1 hown1 hb1)
        go_roundw
        case rel => exact ⟨k + 1, by omega, by go_num, by show Own _ _ _ _ _ _ _; rw [HE.out]; exact hown1, (bw_alloc (bw_alloc hbw)).trans hb1⟩
        case measure => simp [intOf]; omega
      · have HE : Hid (idxs (fun x => decide (x.src = n)) E (k + 1) = idxs (fun x => decide (x.src = n)) E k) := by
          show idxs _ _ _ = _
          rw [idxs_succ]; simp [List.getElem?_eq_getElem hlt, hq]
        go_wp2_with fail
        go_roundw
        case rel => exact ⟨k + 1, by omega, by go_num, by show Own _ _ _ _ _ _ _; rw [HE.out]; exact HO.out.alloc _, bw_alloc hbw⟩
        case measure => simp [intOf]; omega
    · obtain rfl : k = E.length := by omega
      go_wp2_with fail
      go_ret
      exact ⟨_, rfl, HO.out, hbw⟩

set_option maxHeartbeats 2000000 in
theorem in_any (A0 A1 : Option Addr) (c0 c1 : Nat) (N : List Nd) (E : List Sed) (m n : Int) (w : World) (hl : E.length ≤ 1000000) (hs : Sl Lay.sed w A1 E) :
    Calls Try.prog 8 #[.agg #[.slice A0 N.length c0, .slice A1 E.length c1, .int .i64 m], .int .i64 n] w fun e w' => ∃ v, e = .returned v ∧ Own cellsInt 1 w.heap.size 3 w' v (idxs (fun x => decide (x.dst = n)) E E.length) ∧ Below w.heap.size w w' := by
  have hb0 : Below w.heap.size w (w.alloc (.cells #[.slice A0 N.length c0, .slice A1 E.length c1, .int .i64 m] 25)) := (by repeat (first | assumption | exact Below.refl _ _ | apply bw_alloc | apply bw_drew | apply bw_drewN | apply bw_later | apply bw_step))
  go_enter Try.func8, Try.ntmps8
  go_wp2_with fail
  go_loopw [5, 6, 7, 11] (fun v i6 i7 i wr => ∃ k : Nat, k ≤ E.length ∧ i = .int .i64 k ∧ Hid (Own cellsInt 1 w.heap.size 3 wr v (idxs (fun x => decide (x.dst = n)) E k)) ∧ Below w.heap.size w wr) (fun _ _ _ i _ => E.length - (intOf i).toNat)
  case atStart => exact ⟨0, Nat.zero_le _, rfl, Own.nil, hb0⟩
  case round =>
    obtain ⟨k, hk, rfl, HO, hbw⟩ := hrel
    have hsz := hbw.size
    by_cases hlt : k < E.length
    · obtain ⟨b, o, rfl, hb, d0, d1, d2, d3⟩ := (hs.mono hbw).sed_at hlt
      have hlen := idxs_len (fun x : Sed => decide (x.dst = n)) E k
      by_cases hq : E[k].dst = n
      · have HE : Hid (idxs (fun x => decide (x.dst = n)) E (k + 1) = idxs (fun x => decide (x.dst = n)) E k ++ [(k : Int)]) := by
          show idxs _ _ _ = _
          rw [idxs_succ]; simp [List.getElem?_eq_getElem hlt, hq]
        go_wp2_with (at_builtin; refine wpList_push intTy cellsInt_ok rfl (.tmp 20) (.tmp 22) rfl w.heap.size _ (idxs (fun x => decide (x.dst = n)) E k) rfl ((HO.out.alloc _).alloc _) (k : Int) _ _ rfl (cells_one_at (by simp) _ _) (by unfold maxLen; omega) (by omega) (by simp; omega) ?_; intro v1 w1 hown1 hb1)
        go_roundw
        case rel => exact ⟨k + 1, by omega, by go_num, by show Own _ _ _ _ _ _ _; rw [HE.out]; exact hown1, (bw_alloc (bw_alloc hbw)).trans hb1⟩
        case measure => simp [intOf]; omega
      · have HE : Hid (idxs (fun x => decide (x.dst = n)) E (k + 1) = idxs (fun x => decide (x.dst = n)) E k) := by
          show idxs _ _ _ = _
          rw [idxs_succ]; simp [List.getElem?_eq_getElem hlt, hq]
        go_wp2_with fail
        go_roundw
        case rel => exact ⟨k + 1, by omega, by go_num, by show Own _ _ _ _ _ _ _; rw [HE.out]; exact HO.out.alloc _, bw_alloc hbw⟩
        case measure => simp [intOf]; omega
    · obtain rfl : k = E.length := by omega
      go_wp2_with fail
      go_ret
      exact ⟨_, rfl, HO.out, hbw⟩

set_option maxHeartbeats 1000000 in
theorem lawIn_any (A : Option Addr) (c : Nat) (l : List Int) (x : Int) (w : World) (hl : l.length ≤ 1000000) (hs : Sl Lay.int w A l) :
    Calls Try.prog 6 #[.slice A l.length c, .int .i64 x] w fun e w' => e = .returned (.bool (decide (x ∈ l))) ∧ w = w' := by
  go_enter Try.func6, Try.ntmps6
  go_wp2_with fail
  go_loop [5] (fun i => ∃ k : Nat, k ≤ l.length ∧ i = .int .i64 k ∧ Hid (∀ i (hi : i < k) (hi2 : i < l.length), l[i] ≠ x)) (fun i => l.length - (intOf i).toNat)
  case atStart => exact ⟨0, Nat.zero_le _, rfl, fun i hi => by omega⟩
  case round =>
    obtain ⟨k, hk, rfl, HN⟩ := hrel
    by_cases hlt : k < l.length
    · obtain ⟨b, o, rfl, hb, d0⟩ := hs.int_at hlt
      by_cases hq : l[k] = x
      · have HE : Hid (decide (x ∈ l) = true) := by
          show _ = _
          rw [decide_eq_true_eq, ← hq]; exact List.getElem_mem hlt
        go_wp2_with fail
        go_ret
        exact ⟨by rw [HE.out]; rfl, rfl⟩
      · have HE : Hid (∀ i (hi : i < k + 1) (hi2 : i < l.length), l[i] ≠ x) := fun i hi hi2 => by
          by_cases e : i = k
          · subst e; exact hq
          · exact HN.out i (by omega) hi2
        go_wp2_with fail
        go_round
        case rel => exact ⟨k + 1, by omega, by go_num, HE⟩
        case measure => simp [intOf]; omega
    · have HE : Hid (decide (x ∈ l) = false) := by
        show _ = _
        rw [decide_eq_false_iff_not]
        intro h
        obtain ⟨i, hi, e⟩ := List.getElem_of_mem h
        exact HN.out i (by omega) hi e
      go_wp2_with fail
      go_ret
      exact ⟨by rw [HE.out]; rfl, rfl⟩

theorem findLit_any (B1 B2 : Nat) (x : Nd) (f k : Int) (w : World) (hB1 : B1 < w.heap.size) (hB2 : B2 < w.heap.size) (hc1 : w.cell? ⟨B1, 0, none⟩ = some (.int .i64 f)) (hc2 : w.cell? ⟨B2, 0, none⟩ = some (.int .i64 k)) :
    Calls Try.prog 29 #[.agg #[.int .i64 x.fn, .int .i64 x.kind, .int .i64 x.instr], .pointer (some ⟨B1, 0, none⟩), .pointer (some ⟨B2, 0, none⟩)] w fun e w' => e = .returned (.bool (isKind f k x)) ∧ Below w.heap.size w w' := by
  by_cases h1 : x.fn = f
  · have HE : Hid (isKind f k x = (x.kind == k)) := by show _ = _; simp [isKind, h1]; rfl
    go_enter Try.func29, Try.ntmps29
    go_wp2_with fail
    go_ret
    exact ⟨by rw [HE.out]; rfl, (by repeat (first | assumption | exact Below.refl _ _ | apply bw_alloc | apply bw_drew | apply bw_drewN | apply bw_later | apply bw_step))⟩
  · have HE : Hid (isKind f k x = false) := by show _ = _; simp [isKind, h1]
    go_enter Try.func29, Try.ntmps29
    go_wp2_with fail
    go_ret
    exact ⟨by rw [HE.out]; rfl, (by repeat (first | assumption | exact Below.refl _ _ | apply bw_alloc | apply bw_drew | apply bw_drewN | apply bw_later | apply bw_step))⟩

set_option maxHeartbeats 1000000 in
theorem findIdx_any (A : Option Addr) (c B1 B2 : Nat) (l : List Nd) (f t : Int) (w : World) (hl : l.length ≤ 9223372036854775807) (hs : Sl Lay.nd w A l) (hB1 : B1 < w.heap.size) (hB2 : B2 < w.heap.size) (hc1 : w.cell? ⟨B1, 0, none⟩ = some (.int .i64 f)) (hc2 : w.cell? ⟨B2, 0, none⟩ = some (.int .i64 t)) :
    Calls Try.prog 28 #[.slice A l.length c, .func (.func 29) #[] #[.pointer (some ⟨B1, 0, none⟩), .pointer (some ⟨B2, 0, none⟩)]] w fun e w' => e = .returned (.int .i64 (idxI (isKind f t) l)) ∧ Below w.heap.size w w' := by
  go_enter Try.func28, Try.ntmps28
  go_wp2_with fail
  go_loopw [5, 8] (fun j i wr => ∃ k : Nat, k ≤ l.length ∧ i = .int .i64 k ∧ Hid (∀ i (hi : i < k) (hi2 : i < l.length), isKind f t l[i] = false) ∧ Below w.heap.size w wr) (fun _ i _ => l.length - (intOf i).toNat)
  case atStart => exact ⟨0, Nat.zero_le _, rfl, fun i hi => by omega, Below.refl _ _⟩
  case round =>
    obtain ⟨k, hk, rfl, HN, hbw⟩ := hrel
    by_cases hlt : k < l.length
    · obtain ⟨b, o, rfl, hb, d0, d1, d2⟩ := (hs.mono hbw).nd_at hlt
      go_wp2_with fail
      refine (findLit_any B1 B2 l[k] f t _ (Nat.lt_of_lt_of_le hB1 hbw.size) (Nat.lt_of_lt_of_le hB2 hbw.size) (by rw [hbw.cell hB1]; exact hc1) (by rw [hbw.cell hB2]; exact hc2)).mono ?_
      rintro e w1 ⟨rfl, hb1⟩
      cases hq : isKind f t l[k] with
      | true =>
        have HE := Lib.hid (idxI_at hlt (fun i hi => HN.out i hi (by omega)) hq)
        clear hq
        go_wp2_with fail
        go_ret
        exact ⟨by rw [HE.out]; rfl, below_step hbw hb1⟩
      | false =>
        have HE : Hid (∀ i (hi : i < k + 1) (hi2 : i < l.length), isKind f t l[i] = false) := fun i hi hi2 => by
          by_cases e : i = k
          · subst e; exact hq
          · exact HN.out i (by omega) hi2
        clear hq
        go_wp2_with fail
        go_roundw
        case rel => exact ⟨k + 1, by omega, by go_num, HE, below_step hbw hb1⟩
        case measure => simp [intOf]; omega
    · have HE := Lib.hid (idxI_none (p := isKind f t) (l := l) (fun i hi => HN.out i (by omega) hi))
      go_wp2_with fail
      go_ret
      exact ⟨by rw [HE.out]; rfl, hbw⟩

theorem find_any (A0 A1 : Option Addr) (c0 c1 : Nat) (N : List Nd) (E : List Sed) (m f k : Int) (w : World) (hl : N.length ≤ 1000000) (hs : Sl Lay.nd w A0 N) :
    Calls Try.prog 18 #[.agg #[.slice A0 N.length c0, .slice A1 E.length c1, .int .i64 m], .int .i64 f, .int .i64 k] w fun e w' => e = .returned (.int .i64 (idxI (isKind f k) N)) ∧ Below w.heap.size w w' := by
  have hb0 : Below w.heap.size w (((w.alloc (.cells #[.slice A0 N.length c0, .slice A1 E.length c1, .int .i64 m] 25)).alloc (.cells #[.int .i64 f] 3)).alloc (.cells #[.int .i64 k] 3)) := (by repeat (first | assumption | exact Below.refl _ _ | apply bw_alloc | apply bw_drew | apply bw_drewN | apply bw_later | apply bw_step))
  go_enter Try.func18, Try.ntmps18
  go_wp2_with fail
  refine (findIdx_any A0 c0 (w.heap.size + 1) (w.heap.size + 1 + 1) N f k _ (by omega) (hs.mono hb0) (by simp) (by simp) (Box.cell (cs := [.int .i64 f]) (t := 3) (by repeat (first | (refine Box.at ?_; (simp; done)) | apply Box.drew | apply Box.alloc | assumption)) 0 rfl) (Box.cell (cs := [.int .i64 k]) (t := 3) (by repeat (first | (refine Box.at ?_; (simp; done)) | apply Box.drew | apply Box.alloc | assumption)) 0 rfl)).mono ?_
  rintro e w1 ⟨rfl, hb1⟩
  go_wp2_with fail
  go_ret
  exact ⟨rfl, below_step hb0 hb1⟩
theorem start_any (A0 A1 : Option Addr) (c0 c1 : Nat) (N : List Nd) (E : List Sed) (m f : Int) (w : World) (hl : N.length ≤ 1000000) (hs : Sl Lay.nd w A0 N) :
    Calls Try.prog 10 #[.agg #[.slice A0 N.length c0, .slice A1 E.length c1, .int .i64 m], .int .i64 f] w fun e w' => e = .returned (.int .i64 (idxI (isKind f 1) N)) ∧ Below w.heap.size w w' := by
  have hb0 : Below w.heap.size w (w.alloc (.cells #[.slice A0 N.length c0, .slice A1 E.length c1, .int .i64 m] 25)) := (by repeat (first | assumption | exact Below.refl _ _ | apply bw_alloc | apply bw_drew | apply bw_drewN | apply bw_later | apply bw_step))
  go_enter Try.func10, Try.ntmps10
  go_wp2_with fail
  refine (find_any A0 A1 c0 c1 N E m f 1 _ hl (hs.mono hb0)).mono ?_
  rintro e w1 ⟨rfl, hb1⟩
  go_wp2_with fail
  go_ret
  exact ⟨rfl, below_step hb0 hb1⟩
theorem exit_any (A0 A1 : Option Addr) (c0 c1 : Nat) (N : List Nd) (E : List Sed) (m f : Int) (w : World) (hl : N.length ≤ 1000000) (hs : Sl Lay.nd w A0 N) :
    Calls Try.prog 15 #[.agg #[.slice A0 N.length c0, .slice A1 E.length c1, .int .i64 m], .int .i64 f] w fun e w' => e = .returned (.tuple #[.int .i64 (idxI (isKind f 3) N), .int .i64 (idxI (isKind f 4) N)]) ∧ Below w.heap.size w w' := by
  have hb0 : Below w.heap.size w (w.alloc (.cells #[.slice A0 N.length c0, .slice A1 E.length c1, .int .i64 m] 25)) := (by repeat (first | assumption | exact Below.refl _ _ | apply bw_alloc | apply bw_drew | apply bw_drewN | apply bw_later | apply bw_step))
  go_enter Try.func15, Try.ntmps15
  go_wp2_with fail
  refine wp_region_later (by kernel_rfl) (by kernel_rfl) ?_
  repeat (go_big_quiet_step ((go_at_call 18; exact Calls.later (find_any A0 A1 c0 c1 N E m f _ _ hl ((hs.mono hb0).later _)))))
  refine wpQuiet_nil ?_
  rintro _ ⟨x, rfl⟩
  go_wp2_with fail
  go_ret2
  exact ⟨rfl, below_step hb0 x.h⟩

def isNd (x y : Nd) : Bool := decide (x.fn = y.fn) && (decide (x.kind = y.kind) && decide (x.instr = y.instr))
theorem ndGuard : Try.prog.eqGuardType Try.prog.depth 36 = false := by kernel_rfl
theorem nd_eql (a b c d e f : Int) (w : World) : (binOp .eql 36 (.agg #[.int .i64 a, .int .i64 b, .int .i64 c]) (.agg #[.int .i64 d, .int .i64 e, .int .i64 f])).run Try.prog w = .ok (.bool (a == d && (b == e && c == f))) w := by
  by_cases h1 : a = d <;> by_cases h2 : b = e <;> by_cases h3 : c = f <;> simp [go_sem, h1, h2, h3]
theorem isNd_eq (x y : Nd) : (x.fn == y.fn && (x.kind == y.kind && x.instr == y.instr)) = isNd x y := rfl
theorem isNd_refl (x : Nd) : isNd x x = true := by simp [isNd]
theorem isNd_iff {x y : Nd} : isNd x y = true ↔ x = y := by
  constructor
  · intro h; simp [isNd] at h; exact Nd.ext h.1 h.2.1 h.2.2
  · rintro rfl; exact isNd_refl x
set_option maxHeartbeats 2000000 in
theorem index_any (A : Option Addr) (c : Nat) (l : List Nd) (y : Nd) (w : World) (hl : l.length ≤ 1000000) (hs : Sl Lay.nd w A l) :
    Calls Try.prog 17 #[.slice A l.length c, .agg #[.int .i64 y.fn, .int .i64 y.kind, .int .i64 y.instr]] w fun e w' => e = .returned (.int .i64 (idxI (isNd y) l)) ∧ Below w.heap.size w w' := by
  have hb0 : Below w.heap.size w (w.alloc (.cells #[.int .i64 y.fn, .int .i64 y.kind, .int .i64 y.instr] 36)) := (by repeat (first | assumption | exact Below.refl _ _ | apply bw_alloc | apply bw_drew | apply bw_drewN | apply bw_later | apply bw_step))
  have hpe := nd_eql
  have hpg := ndGuard
  go_enter Try.func17, Try.ntmps17
  go_wp2_with fail
  go_loopw [5, 8] (fun j i wr => ∃ k : Nat, k ≤ l.length ∧ i = .int .i64 k ∧ Hid (∀ i (hi : i < k) (hi2 : i < l.length), isNd y l[i] = false) ∧ Box wr w.heap.size [.int .i64 y.fn, .int .i64 y.kind, .int .i64 y.instr] 36 ∧ Below w.heap.size w wr) (fun _ i _ => l.length - (intOf i).toNat)
  case atStart => exact ⟨0, Nat.zero_le _, rfl, fun i hi => by omega, Box.new w _ _, hb0⟩
  case round =>
    obtain ⟨k, hk, rfl, HN, hbx, hbw⟩ := hrel
    have hbl := hbx.lt
    have x0 := hbx.cell 0 rfl
    have x1 := hbx.cell 1 rfl
    have x2 := hbx.cell 2 rfl
    by_cases hlt : k < l.length
    · obtain ⟨b, o, rfl, hb, d0, d1, d2⟩ := (hs.mono hbw).nd_at hlt
      cases hq : isNd y l[k] with
      | true =>
        have HE := Lib.hid (idxI_at hlt (fun i hi => HN.out i hi (by omega)) hq)
        rw [← isNd_eq] at hq
        go_wp2_with fail
        refine wp_region_later (by kernel_rfl) (by kernel_rfl) ?_
        repeat (go_big_quiet_step (fail))
        refine wpQuiet_nil ?_
        rintro _ ⟨x, rfl⟩
        go_wp2_with fail
        go_ret
        exact ⟨by rw [HE.out]; rfl, (by repeat (first | assumption | exact Below.refl _ _ | apply bw_alloc | apply bw_drew | apply bw_drewN | apply bw_later | apply bw_step))⟩
      | false =>
        have HE : Hid (∀ i (hi : i < k + 1) (hi2 : i < l.length), isNd y l[i] = false) := fun i hi hi2 => by
          by_cases e : i = k
          · subst e; exact hq
          · exact HN.out i (by omega) hi2
        rw [← isNd_eq] at hq
        go_wp2_with fail
        refine wp_region_later (by kernel_rfl) (by kernel_rfl) ?_
        repeat (go_big_quiet_step (fail))
        refine wpQuiet_nil ?_
        rintro _ ⟨x, rfl⟩
        go_wp2_with fail
        go_roundw
        case rel => exact ⟨k + 1, by omega, by go_num, HE, hbx.mono x.h, (by repeat (first | assumption | exact Below.refl _ _ | apply bw_alloc | apply bw_drew | apply bw_drewN | apply bw_later | apply bw_step))⟩
        case measure => simp [intOf]; omega
    · have HE := Lib.hid (idxI_none (p := isNd y) (l := l) (fun i hi => HN.out i (by omega) hi))
      go_wp2_with fail
      go_ret
      exact ⟨by rw [HE.out]; rfl, hbw⟩
theorem node_any (A0 A1 : Option Addr) (c0 c1 : Nat) (N : List Nd) (E : List Sed) (m : Int) (y : Nd) (w : World) (hl : N.length ≤ 1000000) (hs : Sl Lay.nd w A0 N) :
    Calls Try.prog 9 #[.agg #[.slice A0 N.length c0, .slice A1 E.length c1, .int .i64 m], .agg #[.int .i64 y.fn, .int .i64 y.kind, .int .i64 y.instr]] w fun e w' => e = .returned (.int .i64 (idxI (isNd y) N)) ∧ Below w.heap.size w w' := by
  have hb0 : Below w.heap.size w ((w.alloc (.cells #[.slice A0 N.length c0, .slice A1 E.length c1, .int .i64 m] 25)).alloc (.cells #[.int .i64 y.fn, .int .i64 y.kind, .int .i64 y.instr] 36)) := (by repeat (first | assumption | exact Below.refl _ _ | apply bw_alloc | apply bw_drew | apply bw_drewN | apply bw_later | apply bw_step))
  go_enter Try.func9, Try.ntmps9
  go_wp2_with fail
  refine (index_any A0 c0 N y _ hl (hs.mono hb0)).mono ?_
  rintro e w1 ⟨rfl, hb1⟩
  go_wp2_with fail
  go_ret
  exact ⟨rfl, below_step hb0 hb1⟩
end Go.Proofs.Ytikjafgemaahlaa
