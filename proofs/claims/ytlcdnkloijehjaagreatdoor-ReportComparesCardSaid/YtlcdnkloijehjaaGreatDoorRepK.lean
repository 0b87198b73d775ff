/-
  Chapter 47: the reference's Hidden: the suppressed findings of a report.
-/
import Derived.Test.YtlcdnkloijehjaaGreatDoorRepJ
namespace Go.Proofs.YtlcdnkloijehjaaGreatDoor
open Go.RowKit
set_option linter.unusedVariables false

def RetFs (w' : World) (l : List Fnd) (e : Ending) : Prop := ∃ A c, e = .returned (.slice A l.length c) ∧ l.length ≤ c ∧ Sl Lay.fnd w' A l
theorem take_hid {H : List Hdn} {k : Nat} (h : k < H.length) : (H.take (k + 1)).map (·.f) = (H.take k).map (·.f) ++ [H[k].f] := by
  rw [List.take_succ_eq_append_getElem h, List.map_append]
  rfl
theorem cells_fnd_new (w : World) (r : RFnd) (t : TypeId) : ∀ j v, (cellsRFnd r)[j]? = some v → (w.alloc (.cells (cellsRFnd r).toArray t)).cell? ⟨w.heap.size, j, none⟩ = some v := fun j v hj => (Box.new w (cellsRFnd r) t).cell j hj
set_option maxHeartbeats 2000000 in
set_option maxRecDepth 100000 in
theorem refHidden_any (H : List Hdn) (A0 A1 A2 : Option Addr) (n0 c0 c1 n2 c2 : Nat) (w : World) (hl : H.length ≤ 1000) (hs : Sl Lay.hdn w A1 H) :
    Calls Tryz.prog 25 #[.agg #[.slice A0 n0 c0, .slice A1 H.length c1, .slice A2 n2 c2]] w fun e w' => RetFs w' (H.map (·.f)) e ∧ Below w.heap.size w w' := by
  have bx0 := Box.new w [.slice A0 n0 c0, .slice A1 H.length c1, .slice A2 n2 c2] 26
  have hb0 : Below w.heap.size w (w.alloc (.cells #[.slice A0 n0 c0, .slice A1 H.length c1, .slice A2 n2 c2] 26)) := (by repeat (first | assumption | exact Below.refl _ _ | apply bw_alloc | apply bw_drew | apply bw_drewN | apply bw_later | apply bw_step))
  go_enter Tryz.func25, Tryz.ntmps25
  go_wp2_with fail
  go_loopw [3, 4] (fun v i wr => ∃ (k : Nat) (rs : List RFnd), k ≤ H.length ∧ i = .int .i64 k ∧ Own cellsRFnd 6 w.heap.size 46 wr v rs ∧ FndsAt w rs ((H.take k).map (·.f)) ∧ Box wr w.heap.size [.slice A0 n0 c0, .slice A1 H.length c1, .slice A2 n2 c2] 26 ∧ Below w.heap.size w wr) (fun _ i _ => H.length - (intOf i).toNat)
  case atStart => exact ⟨0, [], Nat.zero_le _, rfl, Own.nil, FndsAt.nil, bx0, hb0⟩
  case round =>
    clear bx0 hb0
    obtain ⟨k, rs, hk, rfl, ho, hf, hbx, hbw⟩ := hrel
    have p1 := hbx.cell 1 rfl
    have pl := hbx.lt
    have HLEN : Hid (rs.length = k) := by show _ = _; rw [hf.len]; simp; omega
    by_cases hlt : k < H.length
    · obtain ⟨b, o, A3, c3, rfl, h1, d0, d1, d2, d3, d4, d5, d6, hc3, hs3⟩ := hs.hdn_at hlt
      rw [← hbw.cell h1] at d0 d1 d2 d3 d4 d5 d6
      have h1' : b < wr.heap.size := Nat.lt_of_lt_of_le h1 hbw.size
      have hrep : Lay.fnd.rep w H[k].f (cellsRFnd ⟨H[k].f.kind, H[k].f.plc, H[k].f.what, A3, H[k].f.path.length, c3⟩) := ⟨A3, c3, cellsPlc H[k].f.plc, rfl, hc3, hs3, rfl⟩
      have hf2 := hf.snoc hrep
      rw [← take_hid hlt] at hf2
      have HF2 := Lib.hid hf2
      clear hf2 hrep
      go_wp2_with (at_builtin; refine wpList_pushG fndsTy cellsRFnd_ok rfl (.tmp 12) (.tmp 19) rfl w.heap.size _ rs rfl (ho.alloc _) (⟨H[k].f.kind, H[k].f.plc, H[k].f.what, A3, H[k].f.path.length, c3⟩ : RFnd) _ _ rfl (cells_fnd_new _ _ _) (by rw [HLEN.out]; unfold maxLen; omega) (by rw [HLEN.out]; omega) (by have := hbw.size; simp; omega) ?_; intro v1 w1 hown1 hb1 hg1)
      have hbx1 := (hbx.alloc _).grown hg1 (ho.ne_box hbx (by decide))
      go_roundw
      case rel => exact ⟨k + 1, _, by omega, by go_num, hown1, HF2.out, hbx1, (bw_alloc hbw).trans hb1⟩
      case measure => simp [intOf]; omega
    · obtain rfl : k = H.length := by omega
      rw [List.take_length] at hf
      obtain ⟨A, c, rfl, hc, hsl⟩ := ho.slR (M := Lay.fnd) cellsRFnd_ok rfl hf.len (fun i x y h1 h2 => Lay.fnd.mono hbw (hf.each i x y h1 h2))
      go_wp2_with fail
      go_ret
      exact ⟨⟨A, c, rfl, hc, hsl⟩, hbw⟩
end Go.Proofs.YtlcdnkloijehjaaGreatDoor
