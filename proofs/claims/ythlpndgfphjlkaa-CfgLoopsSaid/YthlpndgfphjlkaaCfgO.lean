/-
  Chapter 14: both graphs are one; the law's awake and its walk.
-/
import Derived.Test.YthlpndgfphjlkaaCfgN
namespace Go.Proofs.Ythlpndgfphjlkaa
open Go.RowKit
set_option linter.unusedVariables false

theorem arcsI_asc (n i : Nat) (x : Ins) : Asc ltP (arcsI n i x) := by
  unfold Asc arcsI
  rw [List.pairwise_map]
  exact (allL_asc n i x).imp fun h => by simp [ltP]; exact h
theorem edgesTo_from (code : List Ins) : ∀ k, ∀ p ∈ edgesTo code k, p.1 < k
  | 0, p, hp => by simp [edgesTo] at hp
  | k + 1, p, hp => by
    rw [edgesTo, List.mem_append] at hp
    rcases hp with hp | hp
    · have := edgesTo_from code k p hp; omega
    · split at hp
      · obtain ⟨t, ht, rfl⟩ := List.mem_map.1 hp; dsimp only; omega
      · simp at hp
theorem edgesTo_asc (code : List Ins) : ∀ k, Asc ltP (edgesTo code k)
  | 0 => by simp [edgesTo, Asc]
  | k + 1 => by
    rw [edgesTo]
    unfold Asc
    rw [List.pairwise_append]
    refine ⟨edgesTo_asc code k, ?_, fun a ha b hb => ?_⟩
    · split
      · exact arcsI_asc _ _ _
      · simp
    · have h1 := edgesTo_from code k a ha
      split at hb
      · obtain ⟨t, ht, rfl⟩ := List.mem_map.1 hb
        simp [ltP]
        omega
      · simp at hb
theorem mem_edges {code : List Ins} (hc : Closed code) : ∀ k, k ≤ code.length → ∀ p, p ∈ edgesTo code k ↔ p ∈ (arcsTo code k).map edgeOf
  | 0, _, p => by simp [edgesTo, arcsTo]
  | k + 1, hk, p => by
    have hlt : k < code.length := by omega
    rw [edgesTo_succ hlt, arcsTo_succ hlt, List.mem_append, List.map_append, List.mem_append, mem_edges hc k (by omega) p]
    have hca := hc.at hlt
    have : p ∈ arcsI code.length k code[k] ↔ p ∈ (arcsN k code[k] ++ arcsR code.length k code[k] ++ arcsH code.length k code[k]).map edgeOf := by
      unfold arcsI arcsN arcsR arcsH
      rw [List.map_append, List.map_append, List.mem_append, List.mem_append, List.mem_map]
      simp only [mem_allL hca]
      constructor
      · rintro ⟨t, ht | ⟨h1, h2⟩, rfl⟩
        · unfold normL at ht
          by_cases o : code[k].op = 13
          · rw [if_pos o] at ht
            simp at ht
            subst ht
            refine Or.inl (Or.inr ?_)
            rw [if_pos o]
            simp [edgeOf]
          · rw [if_neg o] at ht
            refine Or.inl (Or.inl ?_)
            simp [edgeOf]
            exact ht
        · refine Or.inr ?_
          rw [if_pos h1]
          simp [edgeOf, h2]
      · rintro ((h | h) | h)
        · rw [List.map_map, List.mem_map] at h
          obtain ⟨t, ht, rfl⟩ := h
          refine ⟨t, Or.inl ?_, rfl⟩
          unfold normL
          by_cases o : code[k].op = 13
          · unfold nextL at ht
            rw [if_pos (Or.inl o)] at ht
            simp at ht
          · rw [if_neg o]; exact ht
        · by_cases o : code[k].op = 13
          · rw [if_pos o] at h
            simp [edgeOf] at h
            subst h
            refine ⟨_, Or.inl ?_, rfl⟩
            unfold normL
            rw [if_pos o]
            simp
          · rw [if_neg o] at h; simp at h
        · by_cases r : raisesB code[k] = true
          · rw [if_pos r] at h
            simp [edgeOf] at h
            subst h
            exact ⟨_, Or.inr ⟨r, rfl⟩, rfl⟩
          · rw [if_neg r] at h; simp at h
    rw [this]
theorem edges_eq {code : List Ins} (hc : Closed code) : ascP ((arcsTo code code.length).map edgeOf) = edgesTo code code.length :=
  Asc.ext totP (ascP_spec _).1 (edgesTo_asc code _) fun p => by rw [(ascP_spec _).2]; exact (mem_edges hc _ (Nat.le_refl _) p).symm

def exCode : List Ins := [⟨1, 0, 0, 0, 0, ⟨#[]⟩, ⟨#[]⟩, [], 0, -1⟩, ⟨13, 0, -1, 0, 0, ⟨#[]⟩, ⟨#[]⟩, [], 0, -1⟩]
theorem exClosed : Closed exCode := by
  refine ⟨fun i h => ?_, fun h => ?_⟩
  · match i, h with
    | 0, h => exact (by decide : ¬ badI 2 ⟨1, 0, 0, 0, 0, ⟨#[]⟩, ⟨#[]⟩, [], 0, -1⟩)
    | 1, h => exact (by decide : ¬ badI 2 ⟨13, 0, -1, 0, 0, ⟨#[]⟩, ⟨#[]⟩, [], 0, -1⟩)
  · exact (by decide : endI ⟨13, 0, -1, 0, 0, ⟨#[]⟩, ⟨#[]⟩, [], 0, -1⟩)
theorem exEdges : edgesTo exCode 2 = [(0, 1), (1, 2)] := by decide
def exCells : List Value := [.int .i64 1, .int .i64 0, .int .i64 0, .int .i64 0, .int .i64 0, .string ⟨#[]⟩, .string ⟨#[]⟩, .slice none 0 0, .int .i64 0, .int .i64 (-1), .int .i64 13, .int .i64 0, .int .i64 (-1), .int .i64 0, .int .i64 0, .string ⟨#[]⟩, .string ⟨#[]⟩, .slice none 0 0, .int .i64 0, .int .i64 (-1)]
theorem exSl (w : World) : Sl Lay.ins (w.alloc (.cells exCells.toArray 52)) (some ⟨w.heap.size, 0, none⟩) exCode := by
  have bx := Box.new w exCells 52
  intro i x hx
  match i, hx with
  | 0, hx =>
    simp [exCode] at hx
    subst hx
    refine ⟨w.heap.size, 0, _, rfl, bx.lt, ⟨none, 0, rfl, Nat.le_refl _, Sl.nil⟩, fun j v hj => ?_⟩
    show World.cell? _ ⟨w.heap.size, 0 + 0 * 10 + j, none⟩ = _
    rw [show 0 + 0 * 10 + j = j by omega]
    refine bx.cell j ?_
    have hlt : j < 10 := (List.getElem?_eq_some_iff.1 hj).1
    rw [← hj]
    match j, hlt with
    | 0, _ | 1, _ | 2, _ | 3, _ | 4, _ | 5, _ | 6, _ | 7, _ | 8, _ | 9, _ => rfl
  | 1, hx =>
    simp [exCode] at hx
    subst hx
    refine ⟨w.heap.size, 0, _, rfl, bx.lt, ⟨none, 0, rfl, Nat.le_refl _, Sl.nil⟩, fun j v hj => ?_⟩
    show World.cell? _ ⟨w.heap.size, 0 + 1 * 10 + j, none⟩ = _
    refine bx.cell _ ?_
    have hlt : j < 10 := (List.getElem?_eq_some_iff.1 hj).1
    rw [← hj]
    match j, hlt with
    | 0, _ | 1, _ | 2, _ | 3, _ | 4, _ | 5, _ | 6, _ | 7, _ | 8, _ | 9, _ => rfl
  | i + 2, hx => simp [exCode] at hx
set_option maxRecDepth 100000 in
theorem awake_any (w : World) : Calls Try.prog 8 #[] w fun e w' => e = .returned (.bool true) ∧ Below w.heap.size w w' := by
  have H := graph_any ⟨#[]⟩ ⟨#[]⟩ false 0 none 0 0 ⟨#[]⟩ (some ⟨w.heap.size, 0, none⟩) 2 exCode (w.alloc (.cells exCells.toArray 52)) (by decide) (exSl w) (Lib.hid exClosed)
  rw [edges_eq exClosed, show edgesTo exCode exCode.length = [(0, 1), (1, 2)] from exEdges, show exCode.length = 2 from rfl] at H
  unfold exCells at H
  go_enter Try.func8, Try.ntmps8
  go_wp2_with fail
  refine H.mono ?_
  clear H
  rintro e w1 ⟨⟨A1, c1, rfl, hc1, hs1⟩, hb1⟩
  obtain ⟨b, o, rfl, hb, d0, d1⟩ := hs1.int2_at (i := 1) (by simp)
  have hbw : Below w.heap.size w w1 := below_step (bw_alloc (Below.refl _ _)) hb1
  have x1 : w1.cell? ⟨b, o + 3, none⟩ = some (.int .i64 2) := d1
  have x0 : w1.cell? ⟨b, o + 2, none⟩ = some (.int .i64 1) := d0
  clear d0 d1 hs1
  go_wp2_with fail
  go_ret
  exact ⟨rfl, bw_alloc hbw⟩
end Go.Proofs.Ythlpndgfphjlkaa
