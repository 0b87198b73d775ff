/-
  slices.SortFunc at edges.
-/
import Derived.Test.YthlpndgfphjlkaaEdgeO
import Derived.Test.YthlpndgfphjlkaaLibD
import Derived.Test.YthlpndgfphjlkaaSortK
import Derived.Test.YthlpndgfphjlkaaShelf
import Derived.Test.YthlpndgfphjlkaaShelf2
import Derived.Test.YthlpndgfphjlkaaOrd
namespace Go.Proofs.Ythlpndgfphjlkaa
open Go.RowKit Go.Sort Go.Shelf
set_option linter.unusedVariables false

set_option maxHeartbeats 400000 in
theorem graphCompare_grow (x y : Int × Int) (w : World) :
    Calls Try.prog 33 #[.agg #[.int .i64 x.1, .int .i64 x.2], .agg #[.int .i64 y.1, .int .i64 y.2]] w fun e w' => e = .returned (.int .i64 (cmpP x y)) ∧ ∃ q os', w' = grow (w.drewN q) os' := by
  obtain ⟨a, b⟩ := x
  obtain ⟨c, d⟩ := y
  go_enter Try.func33, Try.ntmps33
  go_wp2
  refine wp_region_laterD_tail 10 (by kernel_rfl) (by kernel_rfl) ?_
  simp only [List.take_succ_cons, List.take_zero, List.drop_succ_cons, List.drop_zero]
  repeat (go_big_quiet_step ((go_at_call 52; exact Calls.laterD_same (cmpCompare_any _ _ _))))
  refine wpQuiet_nil ?_
  rintro _ ⟨x, rfl⟩
  go_wp2_with fail
  refine (cmpOr_any (cmpI a c) (cmpI b d) _ _ (by simp) (by simp)).mono ?_
  rintro e w' ⟨rfl, rfl⟩
  go_wp2_with fail
  go_ret
  refine ⟨rfl, grow_of (bw_alloc (below_step (bw_alloc (bw_alloc (Below.refl _ _))) x.h)) ?_⟩
  exact x.d

theorem ltOf_cmpP (x y : Int × Int) : ltOf cmpP x y = ltP x y := by
  unfold ltOf
  have h := cmpP_neg x y
  cases h1 : ltP x y with
  | true => rw [h1] at h; simp at h; simpa using h
  | false => rw [h1] at h; simp at h; simpa using h
theorem totP : Tot ltP where
  irrefl x := by simp [ltP]
  trans x y z h1 h2 := by simp [ltP] at *; omega
  tri x y h1 h2 := by
    simp [ltP] at h1 h2
    exact Prod.ext (by omega) (by omega)
theorem swoP : SWO (ltOf cmpP) where
  irrefl x := by rw [ltOf_cmpP]; exact totP.irrefl x
  trans x y z h1 h2 := by rw [ltOf_cmpP] at *; exact totP.trans x y z h1 h2
  ntrans x y z h1 h2 := by rw [ltOf_cmpP] at *; simp [ltP] at *; omega
theorem cmpLaysP (blk off size : Nat) (w : World) : CmpLays Try.prog 33 #[] cellsInt2 2 cmpP blk off size w := fun _ _ _ _ x y => graphCompare_grow x y _

theorem pairAgg : ∀ w, (isAgg 33).run Try.prog w = .ok true w := fun w => by kernel_rfl
theorem pairSize : ∀ w, (Go.sizeOf 33).run Try.prog w = .ok 2 w := fun w => by kernel_rfl

def sortP (l : List (Int × Int)) : List (Int × Int) := l.mergeSort fun x y => !(ltOf cmpP) y x
theorem sortP_len (l : List (Int × Int)) : (sortP l).length = l.length := List.length_mergeSort l

set_option maxHeartbeats 1000000 in
theorem sortEdges_own (g cap : Nat) (l : List (Int × Int)) (base : Nat) (w : World) (h : Own cellsInt2 2 base 33 w (.slice (some ⟨g, 0, none⟩) l.length cap) l) (hl : l.length ≤ 100000) :
    Calls Try.prog 32 #[.slice (some ⟨g, 0, none⟩) l.length cap, .func (.func 33) #[] #[]] w fun e w' => e = .returned (.tuple #[]) ∧ Own cellsInt2 2 base 33 w' (.slice (some ⟨g, 0, none⟩) l.length cap) (sortP l) ∧ RowKit.Below base w w' := by
  have hk : ∀ x, (cellsInt2 x).length = 2 := fun _ => rfl
  have hH := holdsK_of_own hk (by omega) h
  obtain ⟨hbg, -, cur, hg, -, -, -, -⟩ := h.whole
  have hblk : g < w.heap.size := (Array.getElem?_eq_some_iff.1 hg).1
  have eg : ∀ args w, (callFunc 33 args).run Try.prog w = .ok (.enter 33 args) w := enters_of Try.func33 (by kernel_rfl) rfl
  have hsz : l.toArray.size = l.length := by simp
  have hlim : Lib.bitLen l.length < 4611686018427387904 := Nat.lt_of_le_of_lt (Lib.bitLen_le l.length 62 (by omega) (by omega)) (by omega)
  have hp := AnyQ.pdqsortCmpFunc_all Try.pdqEdgeL 2 pairAgg pairSize cellsInt2 cmpP 33 #[] swoP g 0 cap l.toArray w eg (cmpLaysP _ _ _ _) ⟨hk, cellsInt2_ok.one, hH, hblk⟩ (l.toArray.size + 1) 0 l.toArray.size (Lib.bitLen l.length) l.toArray w (by omega) rfl (SWK.start hH) (Nat.zero_le _) (Nat.le_refl _) (by rw [hsz]; omega) hlim (Or.inl rfl)
  have hsorts := pdq_sorts (ltOf cmpP) swoP l.toArray 0 l.toArray.size (Lib.bitLen l.length) true true (Nat.zero_le _) (Nat.le_refl _) (Or.inl rfl)
  have huniq := sorted_unique_holds swoP (fun x y h1 h2 => by rw [ltOf_cmpP] at h1 h2; exact totP.tri x y h1 h2) l.toArray _ hsorts.1 hsorts.2
  have HP := Lib.hid hp
  have HU := Lib.hid huniq
  have hlb := Try.bits_Len (l.length : Int) 
  have HLB := Lib.hid hlb
  clear hp hsorts huniq hlb eg hH hk
  go_enter Try.func32, Try.ntmps32
  go_wp2_with fail
  refine (HLB.out _ (by omega) (by omega)).mono ?_
  rintro e w' ⟨rfl, rfl⟩
  rw [Int.toNat_natCast]
  go_wp2_with fail
  have e0 : pdq (ltOf cmpP) l.toArray 0 l.toArray.size (Lib.bitLen l.length) true true = (sortP l).toArray := by
    apply Array.toList_inj.1
    rw [HU.out]
    simp [sortP]
  have hp := HP.out
  rw [e0, hsz] at hp
  change Calls Try.prog 49 _ _ _ at hp
  refine hp.mono ?_
  rintro e w1 ⟨rfl, n, os, rfl⟩
  have ho := own_of_sortK (cells := cellsInt2) (k := 2) (q := n) (os := os) (fun _ => rfl) (by omega) h (sortP_len l)
  generalize sortWorldK cellsInt2 2 _ g 0 n (sortP l).toArray os = wz at *
  go_wp2_with fail
  go_end0
  exact ⟨rfl, ho.1, ho.2⟩

/-! ### ascending -/
def ascP (l : List (Int × Int)) : List (Int × Int) := compactP (sortP l)

end Go.Proofs.Ythlpndgfphjlkaa
