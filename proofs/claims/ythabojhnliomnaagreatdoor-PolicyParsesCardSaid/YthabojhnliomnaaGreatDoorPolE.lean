/-
  Chapter 42: the law's awake: a rule's line.
-/
import Derived.Test.YthabojhnliomnaaGreatDoorPolD
namespace Go.Proofs.YthabojhnliomnaaGreatDoor
open Go.RowKit
set_option linter.unusedVariables false

theorem split_line (w : World) (hg : Glob w) : Calls Tryz.prog 87 #[.string bLine, .string ⟨#[32]⟩] w fun e w' => e = .returned (.slice (some ⟨w.heap.size, 0, none⟩) 5 5) ∧ w' = w.alloc (.cells #[.string bSource, .string bS, .string bGet, .string bResult, .string bSecret] 9) := by
  obtain ⟨m, hm⟩ := hg.ml
  exact Tryz.strings_Split bLine ⟨#[32]⟩ m w (by decide) hm (by decide)
def wordCells : List Value := [.string bSource, .string bS, .string bGet, .string bResult, .string bSecret]
theorem contains_words (w : World) (b : Nat) (hb : Box w b wordCells 9) : Calls Tryz.prog 74 #[.slice (some ⟨b, 0, none⟩) 5 5, .string ⟨#[]⟩] w fun e w' => e = .returned (.bool false) ∧ w' = w :=
  Tryz.slices_Contains_string b 0 5 5 [bSource, bS, bGet, bResult, bSecret] ⟨#[]⟩ w (by decide) (by decide) (fun j hj => by
    rw [Nat.zero_add]
    match j, hj with
    | 0, _ => exact hb.cell 0 rfl
    | 1, _ => exact hb.cell 1 rfl
    | 2, _ => exact hb.cell 2 rfl
    | 3, _ => exact hb.cell 3 rfl
    | 4, _ => exact hb.cell 4 rfl)
def stepCells (b : Nat) : List Value := [.func (.func 88) #[.pointer (some ⟨b, 0, none⟩)] #[], .func (.func 89) #[.pointer (some ⟨b, 0, none⟩)] #[], .func (.func 90) #[.pointer (some ⟨b, 0, none⟩)] #[], .func (.func 91) #[.pointer (some ⟨b, 0, none⟩)] #[], .func (.func 92) #[.pointer (some ⟨b, 0, none⟩)] #[]]
/-- While a rule's words are read. -/
structure InP (w : World) (c : List Value) (W : World) : Prop where
  br : Box W w.heap.size [.int .i64 0, .string ⟨#[]⟩, .string ⟨#[]⟩, .int .i64 0, .int .i64 0, .slice none 0 0, .bool false, .string ⟨#[]⟩] 51
  bw : Box W (w.heap.size + 1) wordCells 9
  bd : Box W (w.heap.size + 1 + 1) c 125
  bs : Box W (w.heap.size + 1 + 1 + 1) (stepCells (w.heap.size + 1 + 1)) 126
  bel : Below w.heap.size w W
theorem InP.next {w W W' : World} {c c' : List Value} (h : InP w c W) (hd : Box W' (w.heap.size + 1 + 1) c' 125) (hg : W.grownBy W' (some (w.heap.size + 1 + 1))) : InP w c' W' :=
  ⟨h.br.grown hg (by simp; omega), h.bw.grown hg (by simp), hd, h.bs.grown hg (by simp), h.bel.grown hg h.bel.size (fun k hk => by injection hk with hk; omega)⟩
theorem Box.store8 {w : World} {b : Nat} {a0 a1 a2 a3 a4 a5 a6 a7 : Value} {t : TypeId} (h : Box w b [a0, a1, a2, a3, a4, a5, a6, a7] t) (v0 v1 v2 v3 v4 v5 v6 v7 : Value) :
    Box ((((((((w.setCell ⟨b, 0, none⟩ v0).setCell ⟨b, 1, none⟩ v1).setCell ⟨b, 2, none⟩ v2).setCell ⟨b, 3, none⟩ v3).setCell ⟨b, 4, none⟩ v4).setCell ⟨b, 5, none⟩ v5).setCell ⟨b, 6, none⟩ v6).setCell ⟨b, 7, none⟩ v7) b [v0, v1, v2, v3, v4, v5, v6, v7] t ∧ w.grownBy ((((((((w.setCell ⟨b, 0, none⟩ v0).setCell ⟨b, 1, none⟩ v1).setCell ⟨b, 2, none⟩ v2).setCell ⟨b, 3, none⟩ v3).setCell ⟨b, 4, none⟩ v4).setCell ⟨b, 5, none⟩ v5).setCell ⟨b, 6, none⟩ v6).setCell ⟨b, 7, none⟩ v7) (some b) :=
  ⟨(((((((h.set 0 v0).set 1 v1).set 2 v2).set 3 v3).set 4 v4).set 5 v5).set 6 v6).set 7 v7, grown_trans (grown_trans (grown_set2 _ _ _ _ _ _) (grown_set2 _ _ _ _ _ _)) (grown_trans (grown_set2 _ _ _ _ _ _) (grown_set2 _ _ _ _ _ _))⟩
set_option maxRecDepth 100000 in
set_option maxHeartbeats 2000000 in
theorem parseRule_line (w : World) (hg : Glob w) : Calls Tryz.prog 44 #[.string bLine] w fun e w' => e = .returned (.tuple #[.agg #[.int .i64 1, .string bS, .string bGet, .int .i64 2, .int .i64 0, .slice none 0 0, .bool false, .string bSecret], .int .i64 0]) ∧ Below w.heap.size w w' := by
  go_enter Tryz.func44, Tryz.ntmps44
  go_wp2_with fail
  refine (split_line _ (hg.mono (by repeat (first | assumption | exact Below.refl _ _ | apply bw_alloc | apply bw_drew | apply bw_drewN | apply bw_later | apply bw_step)))).mono ?_
  rintro e w1 ⟨rfl, rfl⟩
  go_wp2_with fail
  refine (contains_words _ (w.heap.size + 1) (by unfold wordCells; exact (by repeat (first | (refine Box.at ?_; (simp; done)) | apply Box.drew | apply Box.alloc | assumption)))).mono ?_
  rintro e w1 ⟨rfl, rfl⟩
  go_wp2_with fail
  generalize hW : World.alloc _ _ = W0
  have h0 : InP w (rdr 0 ⟨#[]⟩ ⟨#[]⟩ 0 0 (.slice none 0 0) false ⟨#[]⟩) W0 := by
    rw [← hW]
    exact ⟨(by repeat (first | (refine Box.at ?_; (simp; done)) | apply Box.drew | apply Box.alloc | assumption)), by unfold wordCells; exact (by repeat (first | (refine Box.at ?_; (simp; done)) | apply Box.drew | apply Box.alloc | assumption)), by unfold rdr; exact (by repeat (first | (refine Box.at ?_; (simp; done)) | apply Box.drew | apply Box.alloc | assumption)), by unfold stepCells; exact (by repeat (first | (refine Box.at ?_; (simp; done)) | apply Box.drew | apply Box.alloc | assumption)), (by repeat (first | assumption | exact Below.refl _ _ | apply bw_alloc | apply bw_drew | apply bw_drewN | apply bw_later | apply bw_step))⟩
  clear hW
  have s0 := h0.bs.cell 0 rfl
  have s1 := h0.bs.cell 1 rfl
  have s2 := h0.bs.cell 2 rfl
  have s3 := h0.bs.cell 3 rfl
  have s4 := h0.bs.cell 4 rfl
  have v0 := h0.bw.cell 0 rfl
  have v1 := h0.bw.cell 1 rfl
  have v2 := h0.bw.cell 2 rfl
  have v3 := h0.bw.cell 3 rfl
  have v4 := h0.bw.cell 4 rfl
  have sl := h0.bs.lt
  have vl := h0.bw.lt
  refine wp_loop_rounds 6 ?_
  rw [rounds_succ]
  go_wp2_with fail
  refine (rdKind _ _ _ _ _ _ _ _ _ _ h0.bd).mono ?_
  rintro e W1 ⟨rfl, hd, hgr⟩
  have h1 := h0.next hd hgr
  clear hd hgr s0 s1 s2 s3 s4 v0 v1 v2 v3 v4 sl vl
  have s0 := h1.bs.cell 0 rfl
  have s1 := h1.bs.cell 1 rfl
  have s2 := h1.bs.cell 2 rfl
  have s3 := h1.bs.cell 3 rfl
  have s4 := h1.bs.cell 4 rfl
  have v0 := h1.bw.cell 0 rfl
  have v1 := h1.bw.cell 1 rfl
  have v2 := h1.bw.cell 2 rfl
  have v3 := h1.bw.cell 3 rfl
  have v4 := h1.bw.cell 4 rfl
  have sl := h1.bs.lt
  have vl := h1.bw.lt
  go_wp2_with fail
  rw [rounds_succ]
  go_wp2_with fail
  refine (rdClass bS _ _ _ _ _ _ _ _ _ _ h1.bd).mono ?_
  rintro e W2 ⟨rfl, hd, hgr⟩
  have h2 := h1.next hd hgr
  clear hd hgr s0 s1 s2 s3 s4 v0 v1 v2 v3 v4 sl vl
  have s0 := h2.bs.cell 0 rfl
  have s1 := h2.bs.cell 1 rfl
  have s2 := h2.bs.cell 2 rfl
  have s3 := h2.bs.cell 3 rfl
  have s4 := h2.bs.cell 4 rfl
  have v0 := h2.bw.cell 0 rfl
  have v1 := h2.bw.cell 1 rfl
  have v2 := h2.bw.cell 2 rfl
  have v3 := h2.bw.cell 3 rfl
  have v4 := h2.bw.cell 4 rfl
  have sl := h2.bs.lt
  have vl := h2.bw.lt
  go_wp2_with fail
  rw [rounds_succ]
  go_wp2_with fail
  refine (rdMethod bGet _ _ _ _ _ _ _ _ _ _ h2.bd).mono ?_
  rintro e W3 ⟨rfl, hd, hgr⟩
  have h3 := h2.next hd hgr
  clear hd hgr s0 s1 s2 s3 s4 v0 v1 v2 v3 v4 sl vl
  have s0 := h3.bs.cell 0 rfl
  have s1 := h3.bs.cell 1 rfl
  have s2 := h3.bs.cell 2 rfl
  have s3 := h3.bs.cell 3 rfl
  have s4 := h3.bs.cell 4 rfl
  have v0 := h3.bw.cell 0 rfl
  have v1 := h3.bw.cell 1 rfl
  have v2 := h3.bw.cell 2 rfl
  have v3 := h3.bw.cell 3 rfl
  have v4 := h3.bw.cell 4 rfl
  have sl := h3.bs.lt
  have vl := h3.bw.lt
  go_wp2_with fail
  rw [rounds_succ]
  go_wp2_with fail
  refine (rdAt _ (hg.mono h3.bel) _ _ _ _ _ h3.bd).mono ?_
  rintro e W4 ⟨rfl, hd, hgr⟩
  have h4 := h3.next hd hgr
  clear hd hgr s0 s1 s2 s3 s4 v0 v1 v2 v3 v4 sl vl
  have s0 := h4.bs.cell 0 rfl
  have s1 := h4.bs.cell 1 rfl
  have s2 := h4.bs.cell 2 rfl
  have s3 := h4.bs.cell 3 rfl
  have s4 := h4.bs.cell 4 rfl
  have v0 := h4.bw.cell 0 rfl
  have v1 := h4.bw.cell 1 rfl
  have v2 := h4.bw.cell 2 rfl
  have v3 := h4.bw.cell 3 rfl
  have v4 := h4.bw.cell 4 rfl
  have sl := h4.bs.lt
  have vl := h4.bw.lt
  go_wp2_with fail
  rw [rounds_succ]
  go_wp2_with fail
  refine (rdTag bSecret _ _ _ _ _ _ _ _ _ _ h4.bd).mono ?_
  rintro e W5 ⟨rfl, hd, hgr⟩
  have h5 := h4.next hd hgr
  clear hd hgr s0 s1 s2 s3 s4 v0 v1 v2 v3 v4 sl vl
  have s0 := h5.bs.cell 0 rfl
  have s1 := h5.bs.cell 1 rfl
  have s2 := h5.bs.cell 2 rfl
  have s3 := h5.bs.cell 3 rfl
  have s4 := h5.bs.cell 4 rfl
  have v0 := h5.bw.cell 0 rfl
  have v1 := h5.bw.cell 1 rfl
  have v2 := h5.bw.cell 2 rfl
  have v3 := h5.bw.cell 3 rfl
  have v4 := h5.bw.cell 4 rfl
  have sl := h5.bs.lt
  have vl := h5.bw.lt
  go_wp2_with fail
  rw [rounds_succ]
  have p0 := h5.bd.cell 0 rfl
  have p1 := h5.bd.cell 1 rfl
  have p2 := h5.bd.cell 2 rfl
  have p3 := h5.bd.cell 3 rfl
  have p4 := h5.bd.cell 4 rfl
  have p5 := h5.bd.cell 5 rfl
  have p6 := h5.bd.cell 6 rfl
  have p7 := h5.bd.cell 7 rfl
  have pl := h5.bd.lt
  have rl := h5.br.lt
  have rf := fun i => h5.br.free i
  have r0 := h5.br.cell 0 rfl
  have r1 := h5.br.cell 1 rfl
  have r2 := h5.br.cell 2 rfl
  have r3 := h5.br.cell 3 rfl
  have r4 := h5.br.cell 4 rfl
  have r5 := h5.br.cell 5 rfl
  have r6 := h5.br.cell 6 rfl
  have r7 := h5.br.cell 7 rfl
  obtain ⟨bx2, hg2⟩ := h5.br.store8 (.int .i64 1) (.string bS) (.string bGet) (.int .i64 2) (.int .i64 0) (.slice none 0 0) (.bool false) (.string bSecret)
  have q0 := bx2.cell 0 rfl
  have q1 := bx2.cell 1 rfl
  have q2 := bx2.cell 2 rfl
  have q3 := bx2.cell 3 rfl
  have q4 := bx2.cell 4 rfl
  have q5 := bx2.cell 5 rfl
  have q6 := bx2.cell 6 rfl
  have q7 := bx2.cell 7 rfl
  have hbw2 := h5.bel.grown hg2 h5.bel.size (fun k hk => by injection hk with hk; omega)
  go_wp2_with fail
  refine bodyPost_ret (v := .tuple #[.agg #[.int .i64 1, .string bS, .string bGet, .int .i64 2, .int .i64 0, .slice none 0 0, .bool false, .string bSecret], .int .i64 0]) (by simp [results, Tryz.results44, go_sem, q0, q1, q2, q3, q4, q5, q6, q7]) rfl ⟨rfl, hbw2⟩
end Go.Proofs.YthabojhnliomnaaGreatDoor
