/-
  Chapter 27: the law's own example.
-/
import Derived.Test.YtikjafgemaahlaaSupI
namespace Go.Proofs.Ytikjafgemaahlaa
open Go.RowKit
set_option linter.unusedVariables false

def tinyN : List Nd := [⟨0, 1, -1⟩, ⟨0, 2, 0⟩, ⟨0, 3, -1⟩, ⟨0, 4, -1⟩]
def tinyE : List Sed := [⟨0, 1, 1, -1⟩, ⟨1, 2, 1, -1⟩]
theorem tinyGood : Good tinyN tinyE where
  len := by decide
  lenE := by decide
  node := by
    intro k hk
    have : k < 4 := hk
    match k, this with
    | 0, _ => decide +revert
    | 1, _ => decide +revert
    | 2, _ => decide +revert
    | 3, _ => decide +revert
  ok := by
    intro k hk
    have : k < 4 := hk
    match k, this with
    | 0, _ => exact okInt_of (by decide +revert) (by decide +revert)
    | 1, _ => exact okInt_of (by decide +revert) (by decide +revert)
    | 2, _ => exact okInt_of (by decide +revert) (by decide +revert)
    | 3, _ => exact okInt_of (by decide +revert) (by decide +revert)
  cnt := by
    intro k hk
    have : k < 4 := hk
    match k, this with
    | 0, _ => decide +revert
    | 1, _ => decide +revert
    | 2, _ => decide +revert
    | 3, _ => decide +revert
  edge := by
    intro k hk
    have : k < 2 := hk
    match k, this with
    | 0, _ => exact ⟨0, 1, by decide, by decide, rfl, by decide, by decide, by decide⟩
    | 1, _ => exact ⟨1, 2, by decide, by decide, rfl, by decide, by decide, by decide⟩
  order := by
    intro k hk
    have : k < 2 := hk
    match k, this with
    | 0, _ => decide +revert
    | 1, _ => decide +revert

/-- A graph that the law's 'tiny' returns. -/
structure TinyV (w : World) (v : Value) (A0 A1 : Option Addr) : Prop where
  val : v = .agg #[.slice A0 4 4, .slice A1 2 2, .int .i64 0]
  nodes : Sl Lay.nd w A0 tinyN
  edges : Sl Lay.sed w A1 tinyE
def RetT (w' : World) (e : Ending) : Prop := ∃ v A0 A1, e = .returned v ∧ TinyV w' v A0 A1

theorem tiny_any (w : World) : Calls Try.prog 14 #[] w fun e w' => RetT w' e ∧ Below w.heap.size w w' := by
  go_enter Try.func14, Try.ntmps14
  go_wp2_with fail
  generalize hW : World.alloc _ _ = W
  have hb : Below w.heap.size w W := by rw [← hW]; exact (by repeat (first | assumption | exact Below.refl _ _ | apply bw_alloc | apply bw_drew | apply bw_drewN | apply bw_later | apply bw_step))
  have bx : Box W w.heap.size [.slice (some ⟨w.heap.size + 1, 0, none⟩) 4 4, .slice (some ⟨w.heap.size + 1 + 1, 0, none⟩) 2 2, .int .i64 0] 25 := by rw [← hW]; exact ((Box.new _ _ _).alloc _).alloc _
  have hn : Sl Lay.nd W (some ⟨w.heap.size + 1, 0, none⟩) tinyN := by
    rw [← hW]
    refine Sl.mono ?_ (bw_alloc (Below.refl _ _))
    obtain ⟨A, c, hv, hc, hs⟩ := (Own.lit (cells := cellsNd) (size := 3) (base := 0) (e := 36) (w.alloc (.cells #[.slice (some ⟨w.heap.size + 1, 0, none⟩) 4 4, .slice (some ⟨w.heap.size + 1 + 1, 0, none⟩) 2 2, .int .i64 0] 25)) #[.int .i64 0, .int .i64 1, .int .i64 (-1), .int .i64 0, .int .i64 2, .int .i64 0, .int .i64 0, .int .i64 3, .int .i64 (-1), .int .i64 0, .int .i64 4, .int .i64 (-1)] tinyN (Nat.zero_le _) (by decide) rfl rfl).sl (L := Lay.nd) rfl (fun x => rfl)
    injection hv with hv
    subst hv
    have e : (w.alloc (.cells #[.slice (some ⟨w.heap.size + 1, 0, none⟩) 4 4, .slice (some ⟨w.heap.size + 1 + 1, 0, none⟩) 2 2, .int .i64 0] 25)).heap.size = w.heap.size + 1 := by simp
    rw [e] at hs
    exact hs
  have he : Sl Lay.sed W (some ⟨w.heap.size + 1 + 1, 0, none⟩) tinyE := by
    rw [← hW]
    obtain ⟨A, c, hv, hc, hs⟩ := (Own.lit (cells := cellsSed) (size := 4) (base := 0) (e := 33) ((w.alloc (.cells #[.slice (some ⟨w.heap.size + 1, 0, none⟩) 4 4, .slice (some ⟨w.heap.size + 1 + 1, 0, none⟩) 2 2, .int .i64 0] 25)).alloc (.cells #[.int .i64 0, .int .i64 1, .int .i64 (-1), .int .i64 0, .int .i64 2, .int .i64 0, .int .i64 0, .int .i64 3, .int .i64 (-1), .int .i64 0, .int .i64 4, .int .i64 (-1)] 36)) #[.int .i64 0, .int .i64 1, .int .i64 1, .int .i64 (-1), .int .i64 1, .int .i64 2, .int .i64 1, .int .i64 (-1)] tinyE (Nat.zero_le _) (by decide) rfl rfl).sl (L := Lay.sed) rfl (fun x => rfl)
    injection hv with hv
    subst hv
    have e : ((w.alloc (.cells #[.slice (some ⟨w.heap.size + 1, 0, none⟩) 4 4, .slice (some ⟨w.heap.size + 1 + 1, 0, none⟩) 2 2, .int .i64 0] 25)).alloc (.cells #[.int .i64 0, .int .i64 1, .int .i64 (-1), .int .i64 0, .int .i64 2, .int .i64 0, .int .i64 0, .int .i64 3, .int .i64 (-1), .int .i64 0, .int .i64 4, .int .i64 (-1)] 36)).heap.size = w.heap.size + 1 + 1 := by simp
    rw [e] at hs
    exact hs
  clear hW
  have q0 := bx.cell 0 rfl
  have q1 := bx.cell 1 rfl
  have q2 := bx.cell 2 rfl
  exact bodyPost_ret (v := .agg #[.slice (some ⟨w.heap.size + 1, 0, none⟩) 4 4, .slice (some ⟨w.heap.size + 1 + 1, 0, none⟩) 2 2, .int .i64 0]) (by simp [results, Try.results14, go_sem, q0, q1, q2]) rfl ⟨⟨_, _, _, rfl, ⟨rfl, hn, he⟩⟩, hb⟩

theorem tiny_exit : idxI (isKind 0 3) tinyN = 2 ∧ idxI (isKind 0 4) tinyN = 3 ∧ idxI (isKind 0 1) tinyN = 0 ∧ idxI (isNd ⟨0, 2, 0⟩) tinyN = 1 := by decide
theorem tiny_out : idxs (fun x => decide (x.src = 0)) tinyE tinyE.length = [0] := by decide

set_option maxHeartbeats 1000000 in
theorem awake_any (w : World) : Calls Try.prog 5 #[] w fun e w' => e = .returned (.bool true) ∧ Below w.heap.size w w' := by
  go_enter Try.func5, Try.ntmps5
  go_wp2_with fail
  refine (tiny_any _).mono ?_
  rintro e w1 ⟨⟨v, A0, A1, rfl, ⟨rfl, hn, he⟩⟩, hb1⟩
  go_upto_region 2 with fail
  generalize hW : World.alloc _ _ = W
  have hb : Below w1.heap.size w1 W := by rw [← hW]; exact (by repeat (first | assumption | exact Below.refl _ _ | apply bw_alloc | apply bw_drew | apply bw_drewN | apply bw_later | apply bw_step))
  have bx : Box W w1.heap.size [.slice A0 4 4, .slice A1 2 2, .int .i64 0] 25 := by rw [← hW]; exact Box.new _ _ _
  clear hW
  have hnW := hn.mono hb
  have heW := he.mono hb
  have hbW := below_step hb1 hb
  have bl := bx.lt
  have q0 := bx.cell 0 rfl
  have q1 := bx.cell 1 rfl
  have q2 := bx.cell 2 rfl
  go_wp2_with fail
  refine (exit_any A0 A1 4 2 tinyN tinyE 0 0 _ (by decide) hnW).mono ?_
  rintro e w2 ⟨rfl, hb2⟩
  rw [tiny_exit.1, tiny_exit.2.1]
  have bx2 := bx.mono hb2
  have bl2 := bx2.lt
  have p0 := bx2.cell 0 rfl
  have p1 := bx2.cell 1 rfl
  have p2 := bx2.cell 2 rfl
  have pf := fun i => bx2.free i
  have bx3 := bx2.set 2 (.int .i64 1)
  have hb13 : Below w1.heap.size w1 (w2.setCell ⟨w1.heap.size, 2, none⟩ (.int .i64 1)) := bw_setCell (below_step hb hb2) (Nat.le_refl _)
  go_upto_region 4 with fail
  generalize World.setCell _ _ _ = W3 at bx3 hb13 ⊢
  have hbw3 := below_step hb1 hb13
  have hn3 := hn.mono hb13
  have he3 := he.mono hb13
  have hb3x : Box W3 w1.heap.size [.slice A0 4 4, .slice A1 2 2, .int .i64 1] 25 := bx3
  clear bx3 bx2 p0 p1 p2 pf bx q0 q1 q2 hb hnW heW hbW bl bl2
  go_wp2_with fail
  refine (tiny_any _).mono ?_
  rintro e w4 ⟨⟨v, B0, B1, rfl, ⟨rfl, hn4, he4⟩⟩, hb4⟩
  go_wp2_with fail
  refine (supCheck_any B0 B1 4 2 tinyN tinyE 0 0 _ tinyGood hn4 he4 rfl (by decide)).mono ?_
  rintro e w5 ⟨rfl, hb5⟩
  rw [show (if tinyN[0].kind = 1 then (0 : Int) else 14) = 0 from rfl]
  have hb35 := below_step hb4 hb5
  have bx5 := hb3x.mono hb35
  have bl5 := bx5.lt
  have p0 := bx5.cell 0 rfl
  have p1 := bx5.cell 1 rfl
  have p2 := bx5.cell 2 rfl
  have hn5 := hn3.mono hb35
  have he5 := he3.mono hb35
  have hbw5 := below_step hbw3 hb35
  go_wp2_with fail
  refine (supCheck_any A0 A1 4 2 tinyN tinyE 1 1 _ tinyGood hn5 he5 rfl (by decide)).mono ?_
  rintro e w6 ⟨rfl, hb6⟩
  rw [show (if tinyN[1].kind = 1 then (0 : Int) else 14) = 14 from rfl]
  have bx6 := bx5.mono hb6
  have bl6 := bx6.lt
  have r0 := bx6.cell 0 rfl
  have r1 := bx6.cell 1 rfl
  have r2 := bx6.cell 2 rfl
  have hn6 := hn5.mono hb6
  have he6 := he5.mono hb6
  have hbw6 := below_step hbw5 hb6
  go_wp2_with fail
  refine (start_any A0 A1 4 2 tinyN tinyE 1 0 _ (by decide) hn6).mono ?_
  rintro e w7 ⟨rfl, hb7⟩
  rw [tiny_exit.2.2.1]
  have bx7 := bx6.mono hb7
  have bl7 := bx7.lt
  have s0 := bx7.cell 0 rfl
  have s1 := bx7.cell 1 rfl
  have s2 := bx7.cell 2 rfl
  have hn7 := hn6.mono hb7
  have he7 := he6.mono hb7
  have hbw7 := below_step hbw6 hb7
  go_wp2_with fail
  refine (out_any A0 A1 4 2 tinyN tinyE 1 0 _ (by decide) he7).mono ?_
  rintro e w8 ⟨v, rfl, hv, hb8⟩
  rw [tiny_out] at hv
  obtain ⟨AO, cO, rfl, -, -⟩ := hv.sl (L := Lay.int) rfl (fun x => rfl)
  have bx8 := bx7.mono hb8
  have bl8 := bx8.lt
  have t0 := bx8.cell 0 rfl
  have t1 := bx8.cell 1 rfl
  have t2 := bx8.cell 2 rfl
  have hn8 := hn7.mono hb8
  have hbw8 := below_step hbw7 hb8
  go_wp2_with fail
  refine (node_any A0 A1 4 2 tinyN tinyE 1 ⟨0, 2, 0⟩ _ (by decide) hn8).mono ?_
  rintro e w9 ⟨rfl, hb9⟩
  rw [tiny_exit.2.2.2]
  go_wp2_with fail
  go_ret
  exact ⟨rfl, below_step hbw8 hb9⟩
end Go.Proofs.Ytikjafgemaahlaa
