/-
  Chapter 10: the closed example of the laws.
-/
import Derived.Test.YtafincpkehlcfaaHierI
namespace Go.Proofs.Ytafincpkehlcfaa
open Go.RowKit
set_option linter.unusedVariables false

theorem Sl.of_box {α : Type} {L : Lay α} {w : World} {b : Nat} {cs : List Value} {t : TypeId} (hb : Box w b cs t) (l : List α)
    (h : ∀ i x, l[i]? = some x → ∃ vs, L.rep w x vs ∧ ∀ j v, vs[j]? = some v → cs[i * L.size + j]? = some v) : Sl L w (some ⟨b, 0, none⟩) l := fun i x hx => by
  obtain ⟨vs, h1, h2⟩ := h i x hx
  exact ⟨b, 0, vs, rfl, hb.lt, h1, fun j v hj => by rw [Nat.zero_add]; exact hb.cell _ (h2 j v hj)⟩
def smallCs : List Cls := [⟨⟨#[65]⟩, ⟨#[]⟩, [⟨⟨#[102]⟩, ⟨#[105, 110, 116]⟩⟩], [⟨⟨#[109]⟩, false, [], ⟨#[]⟩⟩]⟩, ⟨⟨#[66]⟩, ⟨#[65]⟩, [], [⟨⟨#[109]⟩, false, [], ⟨#[]⟩⟩]⟩]
theorem small1 : lookS smallCs ⟨#[66]⟩ ⟨#[109]⟩ = (1, 0) := by kernel_rfl
theorem small2 : idxI (isCls ⟨#[66]⟩) smallCs = 1 := by kernel_rfl
theorem small3 : hasS (supersL smallCs ⟨#[66]⟩) ⟨#[65]⟩ = true := by kernel_rfl
theorem small4 : (subsL smallCs ⟨#[65]⟩).length = 2 := by rw [subsL, sortS_len]; kernel_rfl
theorem small5 : (targetsL smallCs ⟨#[65]⟩ ⟨#[109]⟩).length = 2 := by
  have h : (subsI smallCs ⟨#[65]⟩).flatMap (tgtOf smallCs ⟨#[109]⟩) = [⟨#[65]⟩, ⟨#[66]⟩] := by kernel_rfl
  unfold targetsL
  rw [h]
  obtain ⟨h1, h2⟩ := ascS_spec [(⟨#[65]⟩ : ByteArray), ⟨#[66]⟩]
  have : ascS [(⟨#[65]⟩ : ByteArray), ⟨#[66]⟩] = [⟨#[65]⟩, ⟨#[66]⟩] := AscS.ext h1 (by
    unfold AscS
    rw [List.pairwise_cons]
    exact ⟨fun a ha => by simp at ha; subst ha; decide, by simp⟩) h2
  rw [this]
  rfl
theorem smallNames : Hid (NamesOk smallCs) := by
  show ∀ x ∈ smallCs, okStr x.name ∧ okStr x.super
  intro x hx
  simp only [smallCs, List.mem_cons, List.not_mem_nil, or_false] at hx
  rcases hx with rfl | rfl <;> exact ⟨by simp [okStr, maxLen, ByteArray.size], by simp [okStr, maxLen, ByteArray.size]⟩
theorem smallLens : Hid (LensOk smallCs) := by
  show ∀ x ∈ smallCs, _
  intro x hx
  simp only [smallCs, List.mem_cons, List.not_mem_nil, or_false] at hx
  rcases hx with rfl | rfl
  · refine ⟨by simp, by simp, fun y hy => ?_⟩
    simp only [List.mem_cons, List.not_mem_nil, or_false] at hy
    subst hy; simp
  · refine ⟨by simp, by simp, fun y hy => ?_⟩
    simp only [List.mem_cons, List.not_mem_nil, or_false] at hy
    subst hy; simp

def smallW (w : World) : World := (((((w.alloc (.cells #[.slice (some ⟨w.heap.size + 1 + 1 + 1 + 1, 0, none⟩) 2 2] 28)).alloc
  (.cells #[.string { data := #[102] }, .string { data := #[105, 110, 116] }] 37)).alloc
  (.cells #[.string { data := #[109] }, .bool false, .slice none 0 0, .string { data := #[] }] 40)).alloc
  (.cells #[.string { data := #[109] }, .bool false, .slice none 0 0, .string { data := #[] }] 40)).alloc
  (.cells #[.string { data := #[65] }, .string { data := #[] }, .slice (some ⟨w.heap.size + 1, 0, none⟩) 1 1, .slice (some ⟨w.heap.size + 1 + 1, 0, none⟩) 1 1,
    .string { data := #[66] }, .string { data := #[65] }, .slice none 0 0, .slice (some ⟨w.heap.size + 1 + 1 + 1, 0, none⟩) 1 1] 35))
theorem smallW_sl (w : World) : Sl Lay.cls (smallW w) (some ⟨w.heap.size + 1 + 1 + 1 + 1, 0, none⟩) smallCs := by
  have b1 : Box (smallW w) (w.heap.size + 1) [.string { data := #[102] }, .string { data := #[105, 110, 116] }] 37 := by unfold smallW; exact (by repeat (first | (refine Box.at ?_; (simp; done)) | apply Box.drew | apply Box.alloc | assumption))
  have b2 : Box (smallW w) (w.heap.size + 1 + 1) [.string { data := #[109] }, .bool false, .slice none 0 0, .string { data := #[] }] 40 := by unfold smallW; exact (by repeat (first | (refine Box.at ?_; (simp; done)) | apply Box.drew | apply Box.alloc | assumption))
  have b3 : Box (smallW w) (w.heap.size + 1 + 1 + 1) [.string { data := #[109] }, .bool false, .slice none 0 0, .string { data := #[] }] 40 := by unfold smallW; exact (by repeat (first | (refine Box.at ?_; (simp; done)) | apply Box.drew | apply Box.alloc | assumption))
  have b4 : Box (smallW w) (w.heap.size + 1 + 1 + 1 + 1) [.string { data := #[65] }, .string { data := #[] }, .slice (some ⟨w.heap.size + 1, 0, none⟩) 1 1, .slice (some ⟨w.heap.size + 1 + 1, 0, none⟩) 1 1,
    .string { data := #[66] }, .string { data := #[65] }, .slice none 0 0, .slice (some ⟨w.heap.size + 1 + 1 + 1, 0, none⟩) 1 1] 35 := by unfold smallW; exact (by repeat (first | (refine Box.at ?_; (simp; done)) | apply Box.drew | apply Box.alloc | assumption))
  generalize smallW w = W at *
  have sg : ∀ b, Box W b [.string { data := #[109] }, .bool false, .slice none 0 0, .string { data := #[] }] 40 → Sl Lay.sg W (some ⟨b, 0, none⟩) [⟨⟨#[109]⟩, false, [], ⟨#[]⟩⟩] := fun b hb => by
    refine Sl.of_box hb _ fun i x hx => ?_
    match i, hx with
    | 0, hx =>
      obtain rfl := Option.some.inj hx
      exact ⟨_, ⟨none, 0, rfl, Nat.le_refl _, Sl.nil⟩, fun j v hj => by rw [Nat.zero_mul, Nat.zero_add]; exact hj⟩
  have fl : Sl Lay.fld W (some ⟨w.heap.size + 1, 0, none⟩) [⟨⟨#[102]⟩, ⟨#[105, 110, 116]⟩⟩] := by
    refine Sl.of_box b1 _ fun i x hx => ?_
    match i, hx with
    | 0, hx =>
      obtain rfl := Option.some.inj hx
      exact ⟨_, rfl, fun j v hj => by rw [Nat.zero_mul, Nat.zero_add]; exact hj⟩
  refine Sl.of_box b4 _ fun i x hx => ?_
  match i, hx with
  | 0, hx =>
    obtain rfl := Option.some.inj hx
    refine ⟨_, ⟨_, 1, _, 1, rfl, Nat.le_refl _, fl, Nat.le_refl _, sg _ b2⟩, fun j v hj => ?_⟩
    match j, hj with
    | 0, hj => exact hj
    | 1, hj => exact hj
    | 2, hj => exact hj
    | 3, hj => exact hj
  | 1, hx =>
    obtain rfl := Option.some.inj hx
    refine ⟨_, ⟨none, 0, _, 1, rfl, Nat.le_refl _, Sl.nil, Nat.le_refl _, sg _ b3⟩, fun j v hj => ?_⟩
    match j, hj with
    | 0, hj => exact hj
    | 1, hj => exact hj
    | 2, hj => exact hj
    | 3, hj => exact hj

set_option maxRecDepth 100000 in
set_option maxHeartbeats 1000000 in
theorem small_any (w : World) :
    Calls Try.prog 10 #[] w fun e w' => (∃ A, e = .returned (.agg #[.slice A 2 2]) ∧ Sl Lay.cls w' A smallCs) ∧ Below w.heap.size w w' := by
  go_enter Try.func10, Try.ntmps10
  go_wp2_with fail
  have hs := smallW_sl w
  have hb : Below w.heap.size w (smallW w) := by unfold smallW; exact (by repeat (first | assumption | exact Below.refl _ _ | apply bw_alloc | apply bw_drew | apply bw_drewN | apply bw_later | apply bw_step))
  have b0 : Box (smallW w) w.heap.size [.slice (some ⟨w.heap.size + 1 + 1 + 1 + 1, 0, none⟩) 2 2] 28 := by unfold smallW; exact (by repeat (first | (refine Box.at ?_; (simp; done)) | apply Box.drew | apply Box.alloc | assumption))
  show bodyPost Try.prog Try.f10 _ Exit.ret _ (smallW w)
  generalize smallW w = W at *
  have q0 := b0.cell 0 rfl
  exact bodyPost_ret (v := .agg #[.slice (some ⟨w.heap.size + 1 + 1 + 1 + 1, 0, none⟩) 2 2]) (by simp [results, Try.results10, go_sem, q0]) rfl ⟨⟨_, rfl, hs⟩, hb⟩

set_option maxRecDepth 100000 in
set_option maxHeartbeats 1000000 in
theorem awake_any (w : World) : Calls Try.prog 7 #[] w fun e w' => e = .returned (.bool true) ∧ Below w.heap.size w w' := by
  have oB : okStr ⟨#[66]⟩ := by simp [okStr, maxLen, ByteArray.size]
  have oA : okStr ⟨#[65]⟩ := by simp [okStr, maxLen, ByteArray.size]
  have H1 := fun A W => lookup_any A 2 smallCs ⟨#[66]⟩ ⟨#[109]⟩ W (by decide) (by decide)
  have H2 := fun A W => find_any A 2 smallCs ⟨#[66]⟩ W (by decide)
  have H3 := fun A W => isSub_any A 2 smallCs ⟨#[66]⟩ ⟨#[65]⟩ W (by decide) (by decide)
  have H4 := fun A W => subs_any A 2 smallCs ⟨#[65]⟩ W (by decide) (by decide)
  have H5 := fun A W => targets_any A 2 smallCs ⟨#[65]⟩ ⟨#[109]⟩ W (by decide) (by decide)
  have hl : smallCs.length = 2 := rfl
  rw [small1] at H1
  rw [small2] at H2
  rw [small3] at H3
  rw [hl] at H1 H2 H3 H4 H5
  clear hl
  have L4 := small4
  have L5 := small5
  have HN := smallNames
  have HL := smallLens
  have hj : 1 < smallCs.length := by decide
  have hk : 0 < smallCs[1].methods.length := by show 0 < 1; omega
  generalize subsL smallCs ⟨#[65]⟩ = S4 at *
  generalize targetsL smallCs ⟨#[65]⟩ ⟨#[109]⟩ = S5 at *
  have K4 := Lib.hid L4
  have K5 := Lib.hid L5
  clear L4 L5
  go_enter Try.func7, Try.ntmps7
  go_wp2_with fail
  refine (small_any _).mono ?_
  rintro e w1 ⟨⟨A, rfl, hs1⟩, hb1⟩
  have hbx1 := Box.new w1 [.slice A 2 2] 28
  have hb2 : Below w1.heap.size w1 (w1.alloc (.cells #[.slice A 2 2] 28)) := (by repeat (first | assumption | exact Below.refl _ _ | apply bw_alloc | apply bw_drew | apply bw_drewN | apply bw_later | apply bw_step))
  go_wp2_with fail
  refine (H1 A _ (hs1.mono hb2) HN HL oB).mono ?_
  rintro e w3 ⟨hR, hb3⟩
  obtain ⟨v, he, hv⟩ := hR.yes 1 0 hj hk rfl
  obtain ⟨Av, cv, hve, _, _⟩ := hv
  have he' : e = .returned (.tuple #[.string ⟨#[66]⟩, .agg #[.string ⟨#[109]⟩, .bool false, v, .string ⟨#[]⟩], .bool true]) := he
  have hve' : v = .slice Av 0 cv := hve
  subst hve'
  subst he'
  clear he hR hve
  have hbx3 := hbx1.mono hb3
  have hz3 := hbx3.lt
  have e0 := hbx3.cell 0 rfl
  have hb13 := below_step hb2 hb3
  have hb4 : Below w3.heap.size w3 (w3.alloc (.cells #[.string ⟨#[109]⟩, .bool false, .slice Av 0 cv, .string ⟨#[]⟩] 40)) := (by repeat (first | assumption | exact Below.refl _ _ | apply bw_alloc | apply bw_drew | apply bw_drewN | apply bw_later | apply bw_step))
  have hb14 := below_step hb13 hb4
  go_wp2_with fail
  refine (H2 A _ (hs1.mono hb14)).mono ?_
  rintro e w5 ⟨rfl, hb5⟩
  have hbx5 := (hbx3.mono hb4).mono hb5
  have hz5 := hbx5.lt
  have f0 := hbx5.cell 0 rfl
  have hb15 := below_step hb14 hb5
  go_wp2_with fail
  refine (H3 A _ (hs1.mono hb15) HN oB).mono ?_
  rintro e w6 ⟨rfl, hb6⟩
  have hbx6 := hbx5.mono hb6
  have hz6 := hbx6.lt
  have g0 := hbx6.cell 0 rfl
  have hb16 := below_step hb15 hb6
  go_wp2_with fail
  refine (H4 A _ (hs1.mono hb16) HN oA).mono ?_
  rintro e w7 ⟨⟨v7, rfl, hown7⟩, hb7⟩
  obtain ⟨A7, c7, hv7, _, _⟩ := StrsV.of_own hown7
  rw [K4.out] at hv7
  subst hv7
  have hbx7 := hbx6.mono hb7
  have hz7 := hbx7.lt
  have i0 := hbx7.cell 0 rfl
  have hb17 := below_step hb16 hb7
  go_wp2_with fail
  refine (H5 A _ (hs1.mono hb17) HN HL oA).mono ?_
  rintro e w8 ⟨⟨v8, rfl, hown8⟩, hb8⟩
  obtain ⟨A8, c8, hv8, _, _⟩ := StrsV.of_own hown8
  rw [K5.out] at hv8
  subst hv8
  go_wp2_with fail
  go_ret
  exact ⟨rfl, below_step hb1 (below_step hb17 hb8)⟩
end Go.Proofs.Ytafincpkehlcfaa
