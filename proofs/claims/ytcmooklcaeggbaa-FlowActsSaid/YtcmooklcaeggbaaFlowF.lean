/-
  Contracts of chapter 29: Identity of the program.
-/
import Derived.Test.YtcmooklcaeggbaaFlowE
namespace Go.Proofs.Ytcmooklcaeggbaa
open Go.RowKit
set_option linter.unusedVariables false

/-- The first k pairs are those of the identity, the others are zero. -/
def idPart (n k : Nat) : List (Int × Int) := idTo k ++ List.replicate (n - k) (0, 0)
theorem idPart_len {n k : Nat} (h : k ≤ n) : (idPart n k).length = n := by unfold idPart; rw [List.length_append, idTo_len, List.length_replicate]; omega
theorem idPart_set {n k : Nat} (h : k < n) : (idPart n k).set k ((k : Int), (k : Int)) = idPart n (k + 1) := by
  unfold idPart
  rw [List.set_append, if_neg (by rw [idTo_len]; omega), idTo_len, Nat.sub_self, idTo_succ, List.append_assoc]
  congr 1
  rw [show n - k = (n - (k + 1)) + 1 by omega, List.replicate_succ]
  rfl
theorem idPart_all (n : Nat) : idPart n n = idTo n := by unfold idPart; simp

set_option maxHeartbeats 1000000 in
theorem flowIdentity_any (n : Int) (w : World) :
    Calls Try.prog 11 #[.int .i64 n] w fun e w' => IdR n e w' ∧ Below w.heap.size w w' := by
  by_cases h1 : n < 1
  · go_enter Try.func11, Try.ntmps11
    go_wp2
    go_ret2
    exact ⟨IdR.bad (Or.inl h1), (by repeat (first | assumption | exact Below.refl _ _ | apply bw_alloc | apply bw_drew | apply bw_drewN | apply bw_later | apply bw_step))⟩
  by_cases h2 : 1024 < n
  · go_enter Try.func11, Try.ntmps11
    go_wp2
    go_ret2
    exact ⟨IdR.bad (Or.inr h2), (by repeat (first | assumption | exact Below.refl _ _ | apply bw_alloc | apply bw_drew | apply bw_drewN | apply bw_later | apply bw_step))⟩
  obtain ⟨m, rfl⟩ := Int.eq_ofNat_of_zero_le (show 0 ≤ n by omega)
  have h1' : 1 ≤ m := by omega
  have h2' : m ≤ 1024 := by omega
  have hmk := fun W => pairTy.make .i64 .i64 m (by omega) (by omega) W
  go_enter Try.func11, Try.ntmps11
  go_wp2
  go_loopw [16] (fun i wr => ∃ k : Nat, k ≤ m ∧ i = .int .i64 k ∧ Own cellsInt2 2 w.heap.size 46 wr (.slice (some ⟨w.heap.size, 0, none⟩) m m) (idPart m k) ∧ Below w.heap.size w wr) (fun i _ => m - (intOf i).toNat)
  case atStart => exact ⟨0, Nat.zero_le _, rfl, Own.madeAll (size := 2) (.agg #[.int .i64 0, .int .i64 0]) (0, 0) w m rfl rfl (by omega) (Nat.le_refl _) (by unfold maxLen; omega), (by repeat (first | assumption | exact Below.refl _ _ | apply bw_alloc | apply bw_drew | apply bw_drewN | apply bw_later | apply bw_step))⟩
  case round =>
    obtain ⟨k, hk, rfl, hown, hbw⟩ := hrel
    have HLEN := Lib.hid (idPart_len hk)
    by_cases hlt : k < m
    · have HS := Lib.hid (idPart_set hlt)
      obtain ⟨d0, d1⟩ := Own.at2 hown HLEN.out (i := k) (by rw [HLEN.out]; exact hlt)
      have f0 := Own.free2 hown HLEN.out (k * 2)
      have f1 := Own.free2 hown HLEN.out (k * 2 + 1)
      go_wp2
      go_roundw
      case rel => exact ⟨k + 1, by omega, by go_num, by rw [← HS.out]; exact Own.set2 hown HLEN.out k ((k : Int), (k : Int)), bw_setCell (bw_setCell hbw (Nat.le_refl _)) (Nat.le_refl _)⟩
      case measure => simp [intOf]; omega
    · have HK := Lib.hid (show k = m by omega)
      go_wp2
      go_ret2
      exact ⟨IdR.good (by omega) (by omega) (by rw [Int.toNat_natCast, ← idPart_all, ← HK.out]; rw [← HK.out] at hown; exact FlowV.of_own hown), hbw⟩

end Go.Proofs.Ytcmooklcaeggbaa
