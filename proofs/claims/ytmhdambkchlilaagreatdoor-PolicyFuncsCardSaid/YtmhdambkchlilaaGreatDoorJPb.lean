/-
  Chapter 42: the law's awake: a rule's line.
  strings.Builder: the writing methods, where the text of a panic that is never reached has been struck from the translation. (Turned from the shelf's walks.)
  Chapter 42: the law's awake: a policy of one rule.
  Chapter 42: the law's awake.
-/
import Derived.Test.YtmhdambkchlilaaGreatDoorJPolD
import Derived.Test.YtmhdambkchlilaaGreatDoorJShelf
import Derived.Test.YtmhdambkchlilaaGreatDoorJGa
namespace Go.Proofs.YtmhdambkchlilaaGreatDoor
open Go.RowKit
set_option linter.unusedVariables false

theorem split_line (w : World) (hg : Glob w) : Calls Tryz.prog 202 #[.string bLine, .string ⟨#[32]⟩] w fun e w' => e = .returned (.slice (some ⟨w.heap.size, 0, none⟩) 5 5) ∧ w' = w.alloc (.cells #[.string bSource, .string bS, .string bGet, .string bResult, .string bSecret] 9) := by
  obtain ⟨m, hm⟩ := hg.ml
  exact Tryz.strings_Split bLine ⟨#[32]⟩ m w (by decide) hm (by decide)
def wordCells : List Value := [.string bSource, .string bS, .string bGet, .string bResult, .string bSecret]
theorem contains_words (w : World) (b : Nat) (hb : Box w b wordCells 9) : Calls Tryz.prog 159 #[.slice (some ⟨b, 0, none⟩) 5 5, .string ⟨#[]⟩] w fun e w' => e = .returned (.bool false) ∧ w' = w :=
  Tryz.slices_Contains_string b 0 5 5 [bSource, bS, bGet, bResult, bSecret] ⟨#[]⟩ w (by decide) (by decide) (fun j hj => by
    rw [Nat.zero_add]
    match j, hj with
    | 0, _ => exact hb.cell 0 rfl
    | 1, _ => exact hb.cell 1 rfl
    | 2, _ => exact hb.cell 2 rfl
    | 3, _ => exact hb.cell 3 rfl
    | 4, _ => exact hb.cell 4 rfl)
def stepCells (b : Nat) : List Value := [.func (.func 203) #[.pointer (some ⟨b, 0, none⟩)] #[], .func (.func 204) #[.pointer (some ⟨b, 0, none⟩)] #[], .func (.func 205) #[.pointer (some ⟨b, 0, none⟩)] #[], .func (.func 206) #[.pointer (some ⟨b, 0, none⟩)] #[], .func (.func 207) #[.pointer (some ⟨b, 0, none⟩)] #[]]
/-- While a rule's words are read. -/
structure InP (w : World) (c : List Value) (W : World) : Prop where
  br : Box W w.heap.size [.int .i64 0, .string ⟨#[]⟩, .string ⟨#[]⟩, .int .i64 0, .int .i64 0, .slice none 0 0, .bool false, .string ⟨#[]⟩] 82
  bw : Box W (w.heap.size + 1) wordCells 9
  bd : Box W (w.heap.size + 1 + 1) c 296
  bs : Box W (w.heap.size + 1 + 1 + 1) (stepCells (w.heap.size + 1 + 1)) 297
  bel : Below w.heap.size w W
theorem InP.next {w W W' : World} {c c' : List Value} (h : InP w c W) (hd : Box W' (w.heap.size + 1 + 1) c' 296) (hg : W.grownBy W' (some (w.heap.size + 1 + 1))) : InP w c' W' :=
  ⟨h.br.grown hg (by simp; omega), h.bw.grown hg (by simp), hd, h.bs.grown hg (by simp), h.bel.grown hg h.bel.size (fun k hk => by injection hk with hk; omega)⟩
theorem Box.store8 {w : World} {b : Nat} {a0 a1 a2 a3 a4 a5 a6 a7 : Value} {t : TypeId} (h : Box w b [a0, a1, a2, a3, a4, a5, a6, a7] t) (v0 v1 v2 v3 v4 v5 v6 v7 : Value) :
    Box ((((((((w.setCell ⟨b, 0, none⟩ v0).setCell ⟨b, 1, none⟩ v1).setCell ⟨b, 2, none⟩ v2).setCell ⟨b, 3, none⟩ v3).setCell ⟨b, 4, none⟩ v4).setCell ⟨b, 5, none⟩ v5).setCell ⟨b, 6, none⟩ v6).setCell ⟨b, 7, none⟩ v7) b [v0, v1, v2, v3, v4, v5, v6, v7] t ∧ w.grownBy ((((((((w.setCell ⟨b, 0, none⟩ v0).setCell ⟨b, 1, none⟩ v1).setCell ⟨b, 2, none⟩ v2).setCell ⟨b, 3, none⟩ v3).setCell ⟨b, 4, none⟩ v4).setCell ⟨b, 5, none⟩ v5).setCell ⟨b, 6, none⟩ v6).setCell ⟨b, 7, none⟩ v7) (some b) :=
  ⟨(((((((h.set 0 v0).set 1 v1).set 2 v2).set 3 v3).set 4 v4).set 5 v5).set 6 v6).set 7 v7, grown_trans (grown_trans (grown_set2 _ _ _ _ _ _) (grown_set2 _ _ _ _ _ _)) (grown_trans (grown_set2 _ _ _ _ _ _) (grown_set2 _ _ _ _ _ _))⟩
set_option maxRecDepth 100000 in
set_option maxHeartbeats 2000000 in
theorem parseRule_line (w : World) (hg : Glob w) : Calls Tryz.prog 132 #[.string bLine] w fun e w' => e = .returned (.tuple #[.agg #[.int .i64 1, .string bS, .string bGet, .int .i64 2, .int .i64 0, .slice none 0 0, .bool false, .string bSecret], .int .i64 0]) ∧ Below w.heap.size w w' := by
  go_enter Tryz.func132, Tryz.ntmps132
  go_wp2_with fail
  refine (split_line _ (hg.mono (by repeat (first | assumption | exact Below.refl _ _ | apply bw_alloc | apply bw_drew | apply bw_drewN | apply bw_later | apply bw_step)))).mono ?_
  rintro e w1 ⟨rfl, rfl⟩
  go_wp2_with fail
  refine (contains_words _ (w.heap.size + 1) (by unfold wordCells; exact (by repeat (first | (refine Box.at ?_; (simp; done)) | apply Box.drew | apply Box.alloc | assumption)))).mono ?_
  rintro e w1 ⟨rfl, rfl⟩
  go_wp2_with fail
  generalize hW : World.alloc _ _ = W0
  have h0 : InP w (rdr 0 ⟨#[]⟩ ⟨#[]⟩ 0 0 (.slice none 0 0) false ⟨#[]⟩) W0 := by
    rw [← hW]
    exact ⟨(by repeat (first | (refine Box.at ?_; (simp; done)) | apply Box.drew | apply Box.alloc | assumption)), by unfold wordCells; exact (by repeat (first | (refine Box.at ?_; (simp; done)) | apply Box.drew | apply Box.alloc | assumption)), by unfold rdr; exact (by repeat (first | (refine Box.at ?_; (simp; done)) | apply Box.drew | apply Box.alloc | assumption)), by unfold stepCells; exact (by repeat (first | (refine Box.at ?_; (simp; done)) | apply Box.drew | apply Box.alloc | assumption)), (by repeat (first | assumption | exact Below.refl _ _ | apply bw_alloc | apply bw_drew | apply bw_drewN | apply bw_later | apply bw_step))⟩
  clear hW
  have s0 := h0.bs.cell 0 rfl
  have s1 := h0.bs.cell 1 rfl
  have s2 := h0.bs.cell 2 rfl
  have s3 := h0.bs.cell 3 rfl
  have s4 := h0.bs.cell 4 rfl
  have v0 := h0.bw.cell 0 rfl
  have v1 := h0.bw.cell 1 rfl
  have v2 := h0.bw.cell 2 rfl
  have v3 := h0.bw.cell 3 rfl
  have v4 := h0.bw.cell 4 rfl
  have sl := h0.bs.lt
  have vl := h0.bw.lt
  refine wp_loop_rounds 6 ?_
  rw [rounds_succ]
  go_wp2_with fail
  refine (rdKind _ _ _ _ _ _ _ _ _ _ h0.bd).mono ?_
  rintro e W1 ⟨rfl, hd, hgr⟩
  have h1 := h0.next hd hgr
  clear hd hgr s0 s1 s2 s3 s4 v0 v1 v2 v3 v4 sl vl
  have s0 := h1.bs.cell 0 rfl
  have s1 := h1.bs.cell 1 rfl
  have s2 := h1.bs.cell 2 rfl
  have s3 := h1.bs.cell 3 rfl
  have s4 := h1.bs.cell 4 rfl
  have v0 := h1.bw.cell 0 rfl
  have v1 := h1.bw.cell 1 rfl
  have v2 := h1.bw.cell 2 rfl
  have v3 := h1.bw.cell 3 rfl
  have v4 := h1.bw.cell 4 rfl
  have sl := h1.bs.lt
  have vl := h1.bw.lt
  go_wp2_with fail
  rw [rounds_succ]
  go_wp2_with fail
  refine (rdClass bS _ _ _ _ _ _ _ _ _ _ h1.bd).mono ?_
  rintro e W2 ⟨rfl, hd, hgr⟩
  have h2 := h1.next hd hgr
  clear hd hgr s0 s1 s2 s3 s4 v0 v1 v2 v3 v4 sl vl
  have s0 := h2.bs.cell 0 rfl
  have s1 := h2.bs.cell 1 rfl
  have s2 := h2.bs.cell 2 rfl
  have s3 := h2.bs.cell 3 rfl
  have s4 := h2.bs.cell 4 rfl
  have v0 := h2.bw.cell 0 rfl
  have v1 := h2.bw.cell 1 rfl
  have v2 := h2.bw.cell 2 rfl
  have v3 := h2.bw.cell 3 rfl
  have v4 := h2.bw.cell 4 rfl
  have sl := h2.bs.lt
  have vl := h2.bw.lt
  go_wp2_with fail
  rw [rounds_succ]
  go_wp2_with fail
  refine (rdMethod bGet _ _ _ _ _ _ _ _ _ _ h2.bd).mono ?_
  rintro e W3 ⟨rfl, hd, hgr⟩
  have h3 := h2.next hd hgr
  clear hd hgr s0 s1 s2 s3 s4 v0 v1 v2 v3 v4 sl vl
  have s0 := h3.bs.cell 0 rfl
  have s1 := h3.bs.cell 1 rfl
  have s2 := h3.bs.cell 2 rfl
  have s3 := h3.bs.cell 3 rfl
  have s4 := h3.bs.cell 4 rfl
  have v0 := h3.bw.cell 0 rfl
  have v1 := h3.bw.cell 1 rfl
  have v2 := h3.bw.cell 2 rfl
  have v3 := h3.bw.cell 3 rfl
  have v4 := h3.bw.cell 4 rfl
  have sl := h3.bs.lt
  have vl := h3.bw.lt
  go_wp2_with fail
  rw [rounds_succ]
  go_wp2_with fail
  refine (rdAt _ (hg.mono h3.bel) _ _ _ _ _ h3.bd).mono ?_
  rintro e W4 ⟨rfl, hd, hgr⟩
  have h4 := h3.next hd hgr
  clear hd hgr s0 s1 s2 s3 s4 v0 v1 v2 v3 v4 sl vl
  have s0 := h4.bs.cell 0 rfl
  have s1 := h4.bs.cell 1 rfl
  have s2 := h4.bs.cell 2 rfl
  have s3 := h4.bs.cell 3 rfl
  have s4 := h4.bs.cell 4 rfl
  have v0 := h4.bw.cell 0 rfl
  have v1 := h4.bw.cell 1 rfl
  have v2 := h4.bw.cell 2 rfl
  have v3 := h4.bw.cell 3 rfl
  have v4 := h4.bw.cell 4 rfl
  have sl := h4.bs.lt
  have vl := h4.bw.lt
  go_wp2_with fail
  rw [rounds_succ]
  go_wp2_with fail
  refine (rdTag bSecret _ _ _ _ _ _ _ _ _ _ h4.bd).mono ?_
  rintro e W5 ⟨rfl, hd, hgr⟩
  have h5 := h4.next hd hgr
  clear hd hgr s0 s1 s2 s3 s4 v0 v1 v2 v3 v4 sl vl
  have s0 := h5.bs.cell 0 rfl
  have s1 := h5.bs.cell 1 rfl
  have s2 := h5.bs.cell 2 rfl
  have s3 := h5.bs.cell 3 rfl
  have s4 := h5.bs.cell 4 rfl
  have v0 := h5.bw.cell 0 rfl
  have v1 := h5.bw.cell 1 rfl
  have v2 := h5.bw.cell 2 rfl
  have v3 := h5.bw.cell 3 rfl
  have v4 := h5.bw.cell 4 rfl
  have sl := h5.bs.lt
  have vl := h5.bw.lt
  go_wp2_with fail
  rw [rounds_succ]
  have p0 := h5.bd.cell 0 rfl
  have p1 := h5.bd.cell 1 rfl
  have p2 := h5.bd.cell 2 rfl
  have p3 := h5.bd.cell 3 rfl
  have p4 := h5.bd.cell 4 rfl
  have p5 := h5.bd.cell 5 rfl
  have p6 := h5.bd.cell 6 rfl
  have p7 := h5.bd.cell 7 rfl
  have pl := h5.bd.lt
  have rl := h5.br.lt
  have rf := fun i => h5.br.free i
  have r0 := h5.br.cell 0 rfl
  have r1 := h5.br.cell 1 rfl
  have r2 := h5.br.cell 2 rfl
  have r3 := h5.br.cell 3 rfl
  have r4 := h5.br.cell 4 rfl
  have r5 := h5.br.cell 5 rfl
  have r6 := h5.br.cell 6 rfl
  have r7 := h5.br.cell 7 rfl
  obtain ⟨bx2, hg2⟩ := h5.br.store8 (.int .i64 1) (.string bS) (.string bGet) (.int .i64 2) (.int .i64 0) (.slice none 0 0) (.bool false) (.string bSecret)
  have q0 := bx2.cell 0 rfl
  have q1 := bx2.cell 1 rfl
  have q2 := bx2.cell 2 rfl
  have q3 := bx2.cell 3 rfl
  have q4 := bx2.cell 4 rfl
  have q5 := bx2.cell 5 rfl
  have q6 := bx2.cell 6 rfl
  have q7 := bx2.cell 7 rfl
  have hbw2 := h5.bel.grown hg2 h5.bel.size (fun k hk => by injection hk with hk; omega)
  go_wp2_with fail
  refine bodyPost_ret (v := .tuple #[.agg #[.int .i64 1, .string bS, .string bGet, .int .i64 2, .int .i64 0, .slice none 0 0, .bool false, .string bSecret], .int .i64 0]) (by simp [results, Tryz.results132, go_sem, q0, q1, q2, q3, q4, q5, q6, q7]) rfl ⟨rfl, hbw2⟩
end Go.Proofs.YtmhdambkchlilaaGreatDoor
namespace Go.Proofs.YtmhdambkchlilaaGreatDoor
open Go.RowKit Go.Shelf
set_option linter.unusedVariables false

set_option maxHeartbeats 1000000 in
set_option maxRecDepth 100000 in
theorem copyCheck_used (b : Nat) (w : World) (h0 : w.cell? ⟨b, 0, none⟩ = some (.pointer (some ⟨b, 0, none⟩))) :
    Calls Tryz.prog 214 #[.pointer (some ⟨b, 0, none⟩)] w fun e w' => e = .returned (.tuple #[]) ∧ w' = w := by
  obtain ⟨j, hj, _⟩ := Option.map_eq_some_iff.1 Tryz.Builder_Extra_169.toX72.sizeBuilder
  go_enter Tryz.func214, Tryz.ntmps214
  go_wp2
  rw [Lib.run_neq_ptr_same w _ Tryz.underlying229 hj]
  go_wp2
  go_end0
  exact ⟨rfl, rfl⟩
set_option maxHeartbeats 1000000 in
set_option maxRecDepth 100000 in
theorem copyCheck_fresh (b : Nat) (w : World) (h0 : w.cell? ⟨b, 0, none⟩ = some (.pointer none)) (hsh : w.shape? b = some (232, 2)) (hfz : w.frozen? ⟨b, 0, none⟩ = false) :
    Calls Tryz.prog 214 #[.pointer (some ⟨b, 0, none⟩)] w fun e w' => e = .returned (.tuple #[]) ∧ w' = w.setCell ⟨b, 0, none⟩ (.pointer (some ⟨b, 0, none⟩)) := by
  obtain ⟨j, hj, hjs⟩ := Option.map_eq_some_iff.1 Tryz.Builder_Extra_169.toX72.sizeBuilder
  go_enter Tryz.func214, Tryz.ntmps214
  go_wp2
  rw [Lib.run_to_unsafe w ⟨b, 0, none⟩ Tryz.underlying229 Tryz.underlying346 hj (by rw [hjs]; decide) hsh (Nat.zero_lt_succ 1)]
  simp only [Result.andThen]
  rw [Oper.upon_value]
  go_wp2
  rw [run_callFunc_extern Tryz.func279 (by kernel_rfl) (by kernel_rfl) (by kernel_rfl) (e := Extern.AbiNoEscape.same) (by kernel_rfl)]
  rw [Lib.run_noEscape]
  simp only [Result.andThen]
  rw [Oper.upon_value]
  go_wp2
  rw [Lib.run_from_unsafe w ⟨b, 0, none⟩ Tryz.underlying346 Tryz.underlying229 hj hsh Tryz.Builder_Extra_169.toX72.liesBuilder]
  simp only [Result.andThen]
  rw [Oper.upon_value]
  go_wp2
  go_end0
  exact ⟨rfl, rfl⟩
theorem copyCheck_any (B b : Nat) (bs : List Value) (w : World) (h : Lib.IsBuilder 232 5 B b bs w) :
    Calls Tryz.prog 214 #[.pointer (some ⟨b, 0, none⟩)] w fun e w' => e = .returned (.tuple #[]) ∧ (Lib.BuilderAt 232 5 B b (.pointer (some ⟨b, 0, none⟩)) bs w' ∧ Below B w w') := by
  rcases h with h | h
  · refine (copyCheck_fresh b w h.cell0 h.shape h.frozen0).mono ?_
    rintro e w' ⟨rfl, rfl⟩
    exact ⟨rfl, h.used _, (Below.refl B w).setCell (p := ⟨b, 0, none⟩) h.1 _⟩
  · refine (copyCheck_used b w h.cell0).mono ?_
    rintro e w' ⟨rfl, rfl⟩
    exact ⟨rfl, h, Below.refl B _⟩
set_option maxHeartbeats 2000000 in
set_option maxRecDepth 100000 in
theorem writeByte_any (B b : Nat) (bs : List Value) (c : Int) (w : World) (h : Lib.IsBuilder 232 5 B b bs w) (hlen : bs.length + 1 ≤ 140737488355328) (hBw : B ≤ w.heap.size) :
    Calls Tryz.prog 140 #[.pointer (some ⟨b, 0, none⟩), .int .u8 c] w fun e w' => e = .returned .nilIface ∧ (Lib.BuilderAt 232 5 B b (.pointer (some ⟨b, 0, none⟩)) (bs ++ [.int .u8 c]) w' ∧ Below B w w') := by
  obtain ⟨i0, hi, hz0, hz1, hz2⟩ := info_parts Tryz.Builder_Extra_169.infoByte
  go_enter Tryz.func140, Tryz.ntmps140
  go_wp2_with fail
  refine (copyCheck_any B b bs _ h).mono ?_
  rintro e w1 ⟨rfl, h1, hb1⟩
  obtain ⟨hB, v, hbk, hown, hne⟩ := h1
  have c0 : w1.cell? ⟨b, 0, none⟩ = some (.pointer (some ⟨b, 0, none⟩)) := by rw [Lib.cell_of_heap hbk]; rfl
  have c1 : w1.cell? ⟨b, 1, none⟩ = some v := by rw [Lib.cell_of_heap hbk]; rfl
  have hlt : b < w1.heap.size := (Array.getElem?_eq_some_iff.1 hbk).1
  go_wp2_with (at_builtin; refine wpList_append_own _ rfl _ _ 230 rfl B 5 i0 (.int .u8 0) 1 1 Tryz.underlying230 hi hz0 hz1 hz2 rfl (by decide) _ _ _ rfl (hown.alloc _) ⟨w1.heap.size, 0, none⟩ 1 1 [.int .u8 c] rfl rfl ?c1 ?c2 ?c3 ?c4 ?c5 ?_)
  case c1 =>
    intro j u hj
    match j, hj with
    | 0, hj => simp at hj; subst hj; simp [Addr.add]
  case c2 => intro u hu; simp at hu; subst hu; rfl
  case c3 => unfold maxLen; omega
  case c4 => omega
  case c5 => have := hb1.size; simp; omega
  intro v' w2 hown' hgrow _
  have hb2 : w2.heap[b]? = some (.cells #[.pointer (some ⟨b, 0, none⟩), v] 232 (0, 0)) := by
    rw [hgrow.block b (by simp; omega) (fun e => hne e.symm), Lib.alloc_old w1 _ b hlt]
    exact hbk
  have d0 : w2.cell? ⟨b, 0, none⟩ = some (.pointer (some ⟨b, 0, none⟩)) := by rw [Lib.cell_of_heap hb2]; rfl
  have d1 : w2.cell? ⟨b, 1, none⟩ = some v := by rw [Lib.cell_of_heap hb2]; rfl
  have f1 : w2.frozen? ⟨b, 1, none⟩ = false := Lib.frozen_of_heap hb2 1
  have hl2 : b < w2.heap.size := (Array.getElem?_eq_some_iff.1 hb2).1
  obtain ⟨g, cap, rfl⟩ : ∃ g cap, v' = .slice (some ⟨g, 0, none⟩) (bs.length + 1) cap := by
    rcases hown'.2 with ⟨_, h0⟩ | ⟨g, cap, cur, hv, _⟩
    · omega
    · exact ⟨g, cap, hv⟩
  go_wp2
  go_ret
  refine ⟨rfl, ?_, ?_⟩
  · exact Lib.BuilderAt.put (T := 232) (e := 5) hB hb2 (bs' := bs ++ [.int .u8 c]) (by simpa using hown') Tryz.Builder_Extra_169.neB5
  · exact ((hb1.alloc (by have := hb1.size; omega) _).grown hgrow (by have := hb1.size; simp; omega) (fun k hk => (hown.lt k hk).1)).setCell (p := ⟨b, 1, none⟩) hB _
set_option maxHeartbeats 2000000 in
set_option maxRecDepth 100000 in
theorem writeString_any (B b : Nat) (bs : List Value) (s : ByteArray) (w : World) (h : Lib.IsBuilder 232 5 B b bs w) (hlen : bs.length + s.size ≤ 140737488355328) (hBw : B ≤ w.heap.size) :
    Calls Tryz.prog 138 #[.pointer (some ⟨b, 0, none⟩), .string s] w fun e w' => e = .returned (.tuple #[.int .i64 s.size, .nilIface]) ∧ (Lib.BuilderAt 232 5 B b (.pointer (some ⟨b, 0, none⟩)) (bs ++ Lib.strCells s) w' ∧ Below B w w') := by
  obtain ⟨i0, hi, hz0, hz1, hz2⟩ := info_parts Tryz.Builder_Extra_169.infoByte
  go_enter Tryz.func138, Tryz.ntmps138
  go_wp2_with fail
  refine (copyCheck_any B b bs _ h).mono ?_
  rintro e w1 ⟨rfl, h1, hb1⟩
  obtain ⟨hB, v, hbk, hown, hne⟩ := h1
  have c0 : w1.cell? ⟨b, 0, none⟩ = some (.pointer (some ⟨b, 0, none⟩)) := by rw [Lib.cell_of_heap hbk]; rfl
  have c1 : w1.cell? ⟨b, 1, none⟩ = some v := by rw [Lib.cell_of_heap hbk]; rfl
  have hlt : b < w1.heap.size := (Array.getElem?_eq_some_iff.1 hbk).1
  go_wp2_with (at_builtin; refine Lib.wpList_append_own_string _ rfl _ _ 230 9 rfl B 5 i0 Tryz.underlying230 Tryz.underlying9 hi hz0 hz1 hz2 _ _ _ rfl hown s rfl ?c3 ?c4 ?c5 ?_)
  case c3 => unfold maxLen; omega
  case c4 => omega
  case c5 => have := hb1.size; omega
  intro v' w2 hown' hgrow _
  have hb2 : w2.heap[b]? = some (.cells #[.pointer (some ⟨b, 0, none⟩), v] 232 (0, 0)) := by
    rw [hgrow.block b hlt (fun e => hne e.symm)]
    exact hbk
  have d0 : w2.cell? ⟨b, 0, none⟩ = some (.pointer (some ⟨b, 0, none⟩)) := by rw [Lib.cell_of_heap hb2]; rfl
  have d1 : w2.cell? ⟨b, 1, none⟩ = some v := by rw [Lib.cell_of_heap hb2]; rfl
  have f1 : w2.frozen? ⟨b, 1, none⟩ = false := Lib.frozen_of_heap hb2 1
  have hl2 : b < w2.heap.size := (Array.getElem?_eq_some_iff.1 hb2).1
  obtain ⟨ao, n', cap, rfl⟩ : ∃ ao n' cap, v' = .slice ao n' cap := by
    rcases hown'.2 with ⟨hv, _⟩ | ⟨g, cap, cur, hv, _⟩
    · exact ⟨_, _, _, hv⟩
    · exact ⟨_, _, _, hv⟩
  go_wp2
  go_ret2
  refine ⟨rfl, ?_, ?_⟩
  · exact Lib.BuilderAt.put (T := 232) (e := 5) hB hb2 (bs' := bs ++ Lib.strCells s) (by simpa [Lib.strCells_length] using hown') Tryz.Builder_Extra_169.neB5
  · exact (hb1.grown hgrow (by have := hb1.size; omega) (fun k hk => (hown.lt k hk).1)).setCell (p := ⟨b, 1, none⟩) hB _
end Go.Proofs.YtmhdambkchlilaaGreatDoor
namespace Go.Proofs.YtmhdambkchlilaaGreatDoor
open Go.RowKit
set_option linter.unusedVariables false

def exRul : Rul := ⟨1, bS, bGet, ⟨2, 0, [], false⟩, bSecret⟩
theorem exRul_ok : rulE exRul = 0 := by kernel_rfl
theorem exRul_size : OkRul exRul := ⟨by decide, by decide, by decide, by decide, fun y hy => by simp [exRul] at hy⟩
def exCells : List Value := [.int .i64 1, .string bS, .string bGet, .int .i64 2, .int .i64 0, .slice none 0 0, .bool false, .string bSecret]
/-- A slice of that one rule. -/
theorem exSl {w : World} {g : Nat} {A : Option Addr} (hA : A = some ⟨g, 0, none⟩) (hg : g < w.heap.size) (h : ∀ j u, exCells[j]? = some u → w.cell? ⟨g, j, none⟩ = some u) : Sl Lay.rul w A [exRul] := by
  subst hA
  intro i x hx
  match i, hx with
  | 0, hx =>
    simp at hx
    subst hx
    refine ⟨g, 0, exCells, rfl, hg, ⟨[.int .i64 2, .int .i64 0, .slice none 0 0, .bool false], rfl, none, 0, rfl, Nat.le_refl _, Sl.nil⟩, fun j v hj => ?_⟩
    show w.cell? ⟨g, 0 + 0 * 8 + j, none⟩ = _
    rw [show 0 + 0 * 8 + j = j by omega]
    exact h j v hj
  | i + 1, hx => simp at hx
set_option maxRecDepth 100000 in
set_option maxHeartbeats 2000000 in
theorem polCheck_ex (A : Option Addr) (c : Nat) (w : World) (hg : Glob w) (hs : Sl Lay.rul w A [exRul]) :
    Calls Tryz.prog 136 #[.agg #[.slice A 1 c, .slice none 0 0]] w fun e w' => e = .returned (.tuple #[.int .i64 0, .int .i64 0]) ∧ Below w.heap.size w w' := by
  have hb0 : Below w.heap.size w (w.alloc (.cells #[.slice A 1 c, .slice none 0 0] 140)) := (by repeat (first | assumption | exact Below.refl _ _ | apply bw_alloc | apply bw_drew | apply bw_drewN | apply bw_later | apply bw_step))
  have bx0 := Box.new w [.slice A 1 c, .slice none 0 0] 140
  go_enter Tryz.func136, Tryz.ntmps136
  go_wp2_with fail
  go_loopw [25] (fun i wr => ∃ k : Nat, k ≤ 1 ∧ i = .int .i64 k ∧ Box wr w.heap.size [.slice A 1 c, .slice none 0 0] 140 ∧ Below w.heap.size w wr) (fun i _ => 1 - (intOf i).toNat)
  case atStart => exact ⟨0, Nat.zero_le _, rfl, bx0, hb0⟩
  case round =>
    obtain ⟨k, hk, rfl, hbx, hbw⟩ := hrel
    by_cases hlt : k < 1
    · obtain rfl : k = 0 := by omega
      obtain ⟨b, o, A5, c5, rfl, hb, d0, d1, d2, d3, d4, d5, d6, d7, hc5, hs5⟩ := (hs.mono hbw).rul_at (i := 0) (by simp)
      have HC := fun W hW => checkRule_any exRul A5 c5 W (Lib.hid exRul_size) (hg.mono hW).kw (Sl.nil : Sl Lay.str W A5 [])
      rw [exRul_ok] at HC
      replace HC := Lib.hid HC
      simp only [List.getElem_cons_zero, Nat.zero_mul, Nat.add_zero] at d0 d1 d2 d3 d4 d5 d6 d7
      obtain ⟨W1, hW1⟩ : ∃ W1, W1 = wr.alloc (.cells #[.int .i64 exRul.kind, .string exRul.cls, .string exRul.mth, .int .i64 exRul.pth.root, .int .i64 exRul.pth.n, .slice A5 exRul.pth.fields.length c5, .bool exRul.pth.star, .string exRul.tag] 82) := ⟨_, rfl⟩
      go_wp2_with fail
      refine (HC.out _ (bw_alloc hbw)).mono ?_
      rintro e w2 ⟨rfl, hb2⟩
      have hbx2 := (hbx.alloc _).mono hb2
      have hbw2 := below_step (bw_alloc hbw) hb2
      go_wp2_with fail
      go_roundw
      case rel => exact ⟨1, by omega, by go_num, hbx2, hbw2⟩
      case measure => simp [intOf]
    · obtain rfl : k = 1 := by omega
      have p1 := hbx.cell 1 rfl
      have pl := hbx.lt
      go_wp2_with fail
      go_loop [40] (fun i => i = .int .i64 0) (fun _ => 0)
      case atStart => rfl
      case round =>
        obtain rfl := hrel
        go_wp2_with fail
        go_ret2
        exact ⟨rfl, hbw⟩
set_option maxRecDepth 100000 in
theorem acpText_result (A : Option Addr) (c : Nat) (w : World) (hg : Glob w) : Calls Tryz.prog 137 #[.agg #[.int .i64 2, .int .i64 0, .slice A 0 c, .bool false]] w fun e w' => e = .returned (.tuple #[.string bResult, .int .i64 0]) ∧ Below w.heap.size w w' := by
  have hb0 : Below w.heap.size w (w.alloc (.cells #[.int .i64 2, .int .i64 0, .slice A 0 c, .bool false] 80)) := (by repeat (first | assumption | exact Below.refl _ _ | apply bw_alloc | apply bw_drew | apply bw_drewN | apply bw_later | apply bw_step))
  have bx0 := Box.new w [.int .i64 2, .int .i64 0, .slice A 0 c, .bool false] 80
  go_enter Tryz.func137, Tryz.ntmps137
  go_wp2_with fail
  refine (acpCheck_any ⟨2, 0, [], false⟩ A c _ (by simp) (hg.mono hb0).kw Sl.nil (fun y hy => by simp at hy)).mono ?_
  rw [acpE_result]
  rintro e w1 ⟨rfl, hb1⟩
  have bx1 := bx0.mono hb1
  have p0 := bx1.cell 0 rfl
  have p1 := bx1.cell 1 rfl
  have p2 := bx1.cell 2 rfl
  have p3 := bx1.cell 3 rfl
  have pl := bx1.lt
  go_wp2_with fail
  go_loop [5, 36] (fun t i => t = .string bResult ∧ i = .int .i64 0) (fun _ _ => 0)
  case atStart => exact ⟨rfl, rfl⟩
  case round =>
    obtain ⟨rfl, rfl⟩ := hrel
    go_wp2_with fail
    go_ret2
    exact ⟨rfl, below_step hb0 hb1⟩
theorem bldAt_mono {T e : TypeId} {B b : Nat} {p : Value} {bs : List Value} {w w' : World} (h : Lib.BuilderAt T e B b p bs w) (hb : Below w.heap.size w w') : Lib.BuilderAt T e B b p bs w' := by
  obtain ⟨hB, v, hbk, hown, hne⟩ := h
  exact ⟨hB, v, (hb.block b (Array.getElem?_eq_some_iff.1 hbk).1).trans hbk, World.ownsRow.kept hown (row := none) ⟨hb.os, hb.tape, hb.output, hb.size, fun k hk _ => hb.block k hk⟩ (by cases v.ownBlock <;> simp), hne⟩
theorem isBld_mono {T e : TypeId} {B b : Nat} {bs : List Value} {w w' : World} (h : Lib.IsBuilder T e B b bs w) (hb : Below w.heap.size w w') : Lib.IsBuilder T e B b bs w' := h.imp (fun h => bldAt_mono h hb) (fun h => bldAt_mono h hb)
def bText : ByteArray := ⟨#[115, 111, 117, 114, 99, 101, 32, 83, 32, 103, 101, 116, 32, 114, 101, 115, 117, 108, 116, 32, 115, 101, 99, 114, 101, 116, 10]⟩
theorem join_line (w : World) (b : Nat) (hb : Box w b wordCells 9) : Calls Tryz.prog 139 #[.slice (some ⟨b, 0, none⟩) 5 5, .string ⟨#[32]⟩] w fun e w' => e = .returned (.string bLine) ∧ Below w.heap.size w w' :=
  Tryz.strings_Join b 0 5 [bSource, bS, bGet, bResult, bSecret] ⟨#[32]⟩ w (fun j x hj => by
    rw [Nat.zero_add]
    match j, hj with
    | 0, hj => simp at hj; subst hj; exact hb.cell 0 rfl
    | 1, hj => simp at hj; subst hj; exact hb.cell 1 rfl
    | 2, hj => simp at hj; subst hj; exact hb.cell 2 rfl
    | 3, hj => simp at hj; subst hj; exact hb.cell 3 rfl
    | 4, hj => simp at hj; subst hj; exact hb.cell 4 rfl) hb.lt (by decide) (by decide) (by decide)
theorem text_cells : ([] : List Value) ++ Lib.strCells bLine ++ [.int .u8 10] = Lib.byteCells bText.data.toList := by kernel_rfl
set_option maxRecDepth 100000 in
set_option maxHeartbeats 2000000 in
theorem polText_ex (A : Option Addr) (c : Nat) (w : World) (hg : Glob w) (hs : Sl Lay.rul w A [exRul]) :
    Calls Tryz.prog 69 #[.agg #[.slice A 1 c, .slice none 0 0]] w fun e w' => e = .returned (.tuple #[.string bText, .int .i64 0]) ∧ Below w.heap.size w w' := by
  have hb0 : Below w.heap.size w (w.alloc (.cells #[.slice A 1 c, .slice none 0 0] 140)) := (by repeat (first | assumption | exact Below.refl _ _ | apply bw_alloc | apply bw_drew | apply bw_drewN | apply bw_later | apply bw_step))
  have bx0 := Box.new w [.slice A 1 c, .slice none 0 0] 140
  go_enter Tryz.func69, Tryz.ntmps69
  go_wp2_with fail
  refine (polCheck_ex A c _ (hg.mono hb0) (hs.mono hb0)).mono ?_
  rintro e w1 ⟨rfl, hb1⟩
  have bx1 := bx0.mono hb1
  have hbw1 := below_step hb0 hb1
  have p0 := bx1.cell 0 rfl
  have p1 := bx1.cell 1 rfl
  have pl := bx1.lt
  go_wp2_with fail
  generalize hW : World.alloc _ _ = W2
  have hbb : Lib.IsBuilder 232 5 w1.heap.size w1.heap.size [] W2 := by rw [← hW]; exact Lib.fresh_isBuilder _ _ _
  have bx2 : Box W2 w.heap.size [.slice A 1 c, .slice none 0 0] 140 := by rw [← hW]; exact bx1.alloc _
  have hbw2 : Below w.heap.size w W2 := by rw [← hW]; exact bw_alloc hbw1
  have hz2 : w1.heap.size ≤ W2.heap.size := by rw [← hW]; simp
  have hz1 : w.heap.size < w1.heap.size := bx1.lt
  clear hW p0 p1 pl
  refine wp_loop_rounds 2 ?_
  rw [rounds_succ]
  obtain ⟨b, o, A5, c5, rfl, hb, d0, d1, d2, d3, d4, d5, d6, d7, hc5, hs5⟩ := (hs.mono hbw2).rul_at (i := 0) (by simp)
  simp only [List.getElem_cons_zero, Nat.zero_mul, Nat.add_zero] at d0 d1 d2 d3 d4 d5 d6 d7
  have d0' : W2.cell? ⟨b, o, none⟩ = some (.int .i64 1) := d0
  have d1' : W2.cell? ⟨b, o + 1, none⟩ = some (.string bS) := d1
  have d2' : W2.cell? ⟨b, o + 2, none⟩ = some (.string bGet) := d2
  have d3' : W2.cell? ⟨b, o + 3, none⟩ = some (.int .i64 2) := d3
  have d4' : W2.cell? ⟨b, o + 4, none⟩ = some (.int .i64 0) := d4
  have d5' : W2.cell? ⟨b, o + 5, none⟩ = some (.slice A5 0 c5) := d5
  have d6' : W2.cell? ⟨b, o + 6, none⟩ = some (.bool false) := d6
  have d7' : W2.cell? ⟨b, o + 7, none⟩ = some (.string bSecret) := d7
  clear d0 d1 d2 d3 d4 d5 d6 d7 hc5 hs5
  go_wp2_with fail
  generalize hW : World.alloc W2 _ = W3
  have hb23 : Below W2.heap.size W2 W3 := by rw [← hW]; exact (by repeat (first | assumption | exact Below.refl _ _ | apply bw_alloc | apply bw_drew | apply bw_drewN | apply bw_later | apply bw_step))
  have bxr : Box W3 W2.heap.size [.int .i64 1, .string bS, .string bGet, .int .i64 2, .int .i64 0, .slice A5 0 c5, .bool false, .string bSecret] 82 := by rw [← hW]; exact Box.new _ _ _
  clear hW
  refine (acpText_result A5 c5 _ (hg.mono (below_step hbw2 hb23))).mono ?_
  rintro e w4 ⟨rfl, hb34⟩
  have hb24 := below_step hb23 hb34
  have bxr4 := bxr.mono hb34
  have r1 := bxr4.cell 1 rfl
  have r2 := bxr4.cell 2 rfl
  have r7 := bxr4.cell 7 rfl
  have rl := bxr4.lt
  go_wp2_with fail
  generalize hW : World.alloc w4 _ = W5
  have hb45 : Below w4.heap.size w4 W5 := by rw [← hW]; exact (by repeat (first | assumption | exact Below.refl _ _ | apply bw_alloc | apply bw_drew | apply bw_drewN | apply bw_later | apply bw_step))
  have bxw : Box W5 w4.heap.size wordCells 9 := by rw [← hW]; unfold wordCells; exact Box.new _ _ _
  clear hW
  refine (join_line _ _ bxw).mono ?_
  rintro e w6 ⟨rfl, hb56⟩
  have hb26 := below_step (below_step hb24 hb45) hb56
  have hbb6 : Lib.IsBuilder 232 5 w1.heap.size w1.heap.size [] w6 := isBld_mono hbb hb26
  have bx6 := bx2.mono hb26
  have hz6 := hb26.size
  go_wp2_with fail
  refine (writeString_any w1.heap.size w1.heap.size [] bLine _ hbb6 (by decide) (by omega)).mono ?_
  rintro e w7 ⟨rfl, hbb7, hb67⟩
  have bx7 := bx6.below hz1 hb67
  have hz7 := hb67.size
  go_wp2_with fail
  refine (writeByte_any w1.heap.size w1.heap.size _ 10 _ (Or.inr hbb7) (by decide) (by omega)).mono ?_
  rintro e w8 ⟨rfl, hbb8, hb78⟩
  rw [text_cells] at hbb8
  have bx8 := bx7.below hz1 hb78
  have hz8 := hb78.size
  have q1 := bx8.cell 1 rfl
  have ql := bx8.lt
  have hbw8 : Below w.heap.size w w8 := (((below_step hbw2 hb26).trans (hb67.mono (by omega))).trans (hb78.mono (by omega)))
  clear d0' d1' d2' d3' d4' d5' d6' d7' r1 r2 r7 rl
  go_wp2_with fail
  rw [rounds_succ]
  go_wp2_with fail
  go_loop [62] (fun i => i = .int .i64 0) (fun _ => 0)
  case atStart => rfl
  case round =>
    obtain rfl := hrel
    go_wp2_with fail
    refine (Tryz.Builder_Len w1.heap.size w1.heap.size _ _ (Or.inr hbb8)).mono ?_
    rintro e w9 ⟨rfl, rfl⟩
    have hlen : (Lib.byteCells bText.data.toList).length = 27 := by kernel_rfl
    rw [hlen]
    go_wp2_with fail
    refine (Tryz.Builder_String_any w1.heap.size w1.heap.size bText.data.toList _ (Or.inr hbb8) (by omega)).mono ?_
    rintro e w10 ⟨rfl, hb10⟩
    go_wp2_with fail
    go_ret2
    exact ⟨rfl, hbw8.trans (hb10.mono (by omega))⟩
end Go.Proofs.YtmhdambkchlilaaGreatDoor
namespace Go.Proofs.YtmhdambkchlilaaGreatDoor
open Go.RowKit
set_option linter.unusedVariables false

theorem below_drewN' (w : World) (n : Nat) : Below w.heap.size w (w.drewN n) := below_drewN (Below.refl _ _) n
theorem cut_text (w : World) (hg : Glob w) : Calls Tryz.prog 130 #[.string bText, .string ⟨#[10]⟩] w fun e w' => e = .returned (.tuple #[.string bLine, .string ⟨#[]⟩, .bool true]) ∧ Below w.heap.size w w' := by
  obtain ⟨m, hm⟩ := hg.ml
  refine (Tryz.strings_Cut bText ⟨#[10]⟩ m w (by decide) hm).mono ?_
  rintro e w' ⟨rfl, n, rfl⟩
  exact ⟨by kernel_rfl, below_drewN' _ _⟩
theorem cut_none (w : World) (hg : Glob w) : Calls Tryz.prog 130 #[.string ⟨#[]⟩, .string ⟨#[10]⟩] w fun e w' => e = .returned (.tuple #[.string ⟨#[]⟩, .string ⟨#[]⟩, .bool false]) ∧ Below w.heap.size w w' := by
  obtain ⟨m, hm⟩ := hg.ml
  refine (Tryz.strings_Cut ⟨#[]⟩ ⟨#[10]⟩ m w (by decide) hm).mono ?_
  rintro e w' ⟨rfl, n, rfl⟩
  exact ⟨by kernel_rfl, below_drewN' _ _⟩
def bRest : ByteArray := ⟨#[83, 32, 103, 101, 116, 32, 114, 101, 115, 117, 108, 116, 32, 115, 101, 99, 114, 101, 116]⟩
theorem cut_line (w : World) (hg : Glob w) : Calls Tryz.prog 130 #[.string bLine, .string ⟨#[32]⟩] w fun e w' => e = .returned (.tuple #[.string bSource, .string bRest, .bool true]) ∧ Below w.heap.size w w' := by
  obtain ⟨m, hm⟩ := hg.ml
  refine (Tryz.strings_Cut bLine ⟨#[32]⟩ m w (by decide) hm).mono ?_
  rintro e w' ⟨rfl, n, rfl⟩
  exact ⟨by kernel_rfl, below_drewN' _ _⟩
theorem contains_none (w : World) : Calls Tryz.prog 133 #[.string ⟨#[]⟩, .string ⟨#[10]⟩] w fun e w' => e = .returned (.bool false) ∧ w' = w := Tryz.strings_Contains_one ⟨#[]⟩ 10 w
theorem begins_line (w : World) (hg : Glob w) : Calls Tryz.prog 131 #[.string bLine] w fun e w' => e = .returned (.bool false) ∧ Below w.heap.size w w' := by
  have t1 : (bSource.toList == ([112, 114, 111, 116, 111, 99, 111, 108] : List UInt8)) = false := by kernel_rfl
  have t2 : (bSource.toList == (ByteArray.mk #[112, 114, 111, 116, 111, 99, 111, 108]).toList) = false := by kernel_rfl
  go_enter Tryz.func131, Tryz.ntmps131
  go_wp2_with fail
  refine (cut_line _ hg).mono ?_
  rintro e w1 ⟨rfl, hb1⟩
  go_wp2_with fail
  go_ret
  exact ⟨rfl, hb1⟩
def cellsEx (_ : Unit) : List Value := exCells
theorem cellsEx_ok : CellsOk cellsEx 8 := ⟨fun _ => rfl, fun _ u hu => by simp [cellsEx, exCells] at hu; rcases hu with rfl | rfl | rfl | rfl | rfl | rfl | rfl | rfl <;> rfl⟩
theorem rulsTy : ElemTy Tryz.prog 137 82 8 104 (.agg #[.int .i64 0, .string ⟨#[]⟩, .string ⟨#[]⟩, .int .i64 0, .int .i64 0, .slice none 0 0, .bool false, .string ⟨#[]⟩]) := ⟨Tryz.underlying137, by kernel_rfl, rfl, by omega⟩
def RetP (w' : World) (e : Ending) : Prop := ∃ A c, e = .returned (.tuple #[.agg #[.slice A 1 c, .slice none 0 0], .int .i64 0, .int .i64 0]) ∧ Sl Lay.rul w' A [exRul]
theorem own_exSl {w : World} {base : Nat} {A : Option Addr} {n c : Nat} (h : Own cellsEx 8 base 82 w (.slice A n c) [()]) : n = 1 ∧ Sl Lay.rul w A [exRul] := by
  obtain ⟨g, rfl, hb, hlt, hn⟩ := h.form (by simp)
  refine ⟨hn, exSl rfl hlt fun j u hj => ?_⟩
  have := World.ownsRow.cells h (g := g) rfl j u (by simpa [cellsEx] using hj)
  rw [add_form] at this
  simpa using this
set_option maxRecDepth 100000 in
set_option maxHeartbeats 2000000 in
theorem polParse_ex (w : World) (hg : Glob w) :
    Calls Tryz.prog 68 #[.string bText] w fun e w' => RetP w' e ∧ Below w.heap.size w w' := by
  have hsz : bText.size = 27 := rfl
  have hb0 : Below w.heap.size w ((w.alloc (.cells #[.slice none 0 0, .slice none 0 0] 140)).alloc (.cells #[.slice none 0 0, .slice none 0 0] 140)) := (by repeat (first | assumption | exact Below.refl _ _ | apply bw_alloc | apply bw_drew | apply bw_drewN | apply bw_later | apply bw_step))
  have br0 : Box ((w.alloc (.cells #[.slice none 0 0, .slice none 0 0] 140)).alloc (.cells #[.slice none 0 0, .slice none 0 0] 140)) w.heap.size [.slice none 0 0, .slice none 0 0] 140 := (Box.new _ _ _).alloc _
  have bp0 : Box ((w.alloc (.cells #[.slice none 0 0, .slice none 0 0] 140)).alloc (.cells #[.slice none 0 0, .slice none 0 0] 140)) (w.heap.size + 1) [.slice none 0 0, .slice none 0 0] 140 := Box.at (by simp)
  go_enter Tryz.func68, Tryz.ntmps68
  go_wp2_with fail
  refine wp_loop_rounds 2 ?_
  rw [rounds_succ]
  go_wp2_with fail
  refine (cut_text _ (hg.mono hb0)).mono ?_
  rintro e w1 ⟨rfl, hb1⟩
  have hbw1 := below_step hb0 hb1
  go_wp2_with fail
  refine (begins_line _ (hg.mono hbw1)).mono ?_
  rintro e w2 ⟨rfl, hb2⟩
  have hbw2 := below_step hbw1 hb2
  go_wp2_with fail
  refine (parseRule_line _ (hg.mono hbw2)).mono ?_
  rintro e w3 ⟨rfl, hb3⟩
  have hbw3 := below_step hbw2 hb3
  have br3 := ((br0.mono hb1).mono hb2).mono hb3
  have bp3 := ((bp0.mono hb1).mono hb2).mono hb3
  clear br0 bp0 hb0 hb1 hb2 hb3
  have p0 := bp3.cell 0 rfl
  have pl := bp3.lt
  obtain ⟨W4, hW4⟩ : ∃ W4 : World, W4 = w3.alloc (.cells #[.int .i64 1, .string bS, .string bGet, .int .i64 2, .int .i64 0, .slice none 0 0, .bool false, .string bSecret] 82) := ⟨_, rfl⟩
  have hz4 : W4.heap.size = w3.heap.size + 1 := by rw [hW4]; simp
  have hb34 : Below w3.heap.size w3 W4 := by rw [hW4]; exact (by repeat (first | assumption | exact Below.refl _ _ | apply bw_alloc | apply bw_drew | apply bw_drewN | apply bw_later | apply bw_step))
  have hw3z := hbw3.size
  obtain ⟨v5, w5, hrun, ho5, hb5, hg5, hz5⟩ := run_push rulsTy cellsEx_ok 137 (Own.nil : Own cellsEx 8 w.heap.size 82 (W4.alloc (.cells exCells.toArray 82)) (.slice none 0 0) []) () W4.heap.size 1 (fun j u hj => (Box.new W4 exCells 82).cell j hj) (by simp [maxLen]) (by simp) (by simp; omega)
  have hb45 : Below w3.heap.size w3 (W4.alloc (.cells exCells.toArray 82)) := bw_alloc hb34
  have bp5 := (bp3.mono hb45).grown hg5 (by simp [Value.ownBlock])
  have br5 := (br3.mono hb45).grown hg5 (by simp [Value.ownBlock])
  have hbw5 : Below w.heap.size w w5 := (hbw3.trans (hb45.mono hw3z)).trans hb5
  rw [hz4] at hrun
  rw [hW4] at hrun
  unfold exCells at hrun
  obtain ⟨A5, n5, c5, rfl⟩ := ho5.isSl
  have q0 := bp5.cell 0 rfl
  have ql := bp5.lt
  have qf := fun i => bp5.free i
  clear hW4 hz4 hb34 hb45 hb5 hg5 hz5
  go_wp2_with (at_builtin; refine wpList_appendRun rfl (.tmp 50) (.tmp 52) 137 rfl rfl rfl hrun ?_)
  have bp6 := bp5.set 0 (.slice A5 n5 c5)
  have br6 := br5.setOther (p := ⟨w.heap.size + 1, 0, none⟩) (by simp) (.slice A5 n5 c5)
  have hg6 := grown_set w5 (w.heap.size + 1) 0 (.slice A5 n5 c5)
  have ho6 := ho5.kept_box bp5 (by decide) hg6
  have hbw6 : Below w.heap.size w (w5.setCell ⟨w.heap.size + 1, 0, none⟩ (.slice A5 n5 c5)) := hbw5.setCell (by simp) _
  obtain ⟨rfl, hs6⟩ := own_exSl ho6
  generalize World.setCell _ _ _ = w6 at *
  rw [rounds_succ]
  go_wp2_with fail
  refine (cut_none _ (hg.mono hbw6)).mono ?_
  rintro e w7 ⟨rfl, hb7⟩
  have hbw7 := below_step hbw6 hb7
  have bp7 := bp6.mono hb7
  have br7 := br6.mono hb7
  have hs7 := hs6.mono hb7
  have ho7 := ho6.mono hb7
  clear bp6 br6 hs6 ho6 hg6 q0 ql qf bp5 br5 ho5 bp3 br3 p0 pl
  go_wp2_with fail
  refine wp_loop_rounds 1 ?_
  rw [rounds_succ]
  go_wp2_with fail
  refine (contains_none _).mono ?_
  rintro e w8 ⟨rfl, rfl⟩
  have q0 := bp7.cell 0 rfl
  have q1 := bp7.cell 1 rfl
  have ql := bp7.lt
  go_wp2_with fail
  refine (polCheck_ex A5 c5 _ (hg.mono hbw7) hs7).mono ?_
  rintro e w9 ⟨rfl, hb9⟩
  have hbw9 := below_step hbw7 hb9
  have bp9 := bp7.mono hb9
  have br9 := br7.mono hb9
  have hs9 := hs7.mono hb9
  have x0 := bp9.cell 0 rfl
  have x1 := bp9.cell 1 rfl
  have xl := bp9.lt
  have y0 := br9.cell 0 rfl
  have y1 := br9.cell 1 rfl
  have yl := br9.lt
  have yf := fun i => br9.free i
  obtain ⟨bx2, hg2⟩ := br9.store2 (.slice A5 1 c5) (.slice none 0 0)
  have z0 := bx2.cell 0 rfl
  have z1 := bx2.cell 1 rfl
  have hbwA := hbw9.grown hg2 hbw9.size (fun k hk => by injection hk with hk; omega)
  have hoA := (ho7.mono hb9).kept_box br9 (by decide) hg2
  have hsA := (own_exSl hoA).2
  clear ho7 hoA hs7 hs9
  go_wp2_with fail
  refine bodyPost_ret (v := .tuple #[.agg #[.slice A5 1 c5, .slice none 0 0], .int .i64 0, .int .i64 0]) (by simp [results, Tryz.results68, go_sem, z0, z1]) rfl ⟨⟨A5, c5, rfl, hsA⟩, hbwA⟩
theorem exTags : ascS (srcT [exRul]) = [bSecret] := by kernel_rfl
set_option maxRecDepth 100000 in
set_option maxHeartbeats 2000000 in
theorem awake_any (w : World) (hg : Glob w) : Calls Tryz.prog 34 #[] w fun e w' => e = .returned (.bool true) ∧ Below w.heap.size w w' := by
  have t1 : bText.toList = [115, 111, 117, 114, 99, 101, 32, 83, 32, 103, 101, 116, 32, 114, 101, 115, 117, 108, 116, 32, 115, 101, 99, 114, 101, 116, 10] := by kernel_rfl
  go_enter Tryz.func34, Tryz.ntmps34
  go_wp2_with fail
  refine (polParse_ex _ hg).mono ?_
  rintro e w1 ⟨⟨A, c, rfl, hs1⟩, hb1⟩
  have bx1 := Box.new w1 [.slice A 1 c, .slice none 0 0] 140
  have hbw1 : Below w.heap.size w (w1.alloc (.cells #[.slice A 1 c, .slice none 0 0] 140)) := bw_alloc hb1
  have hs2 : Sl Lay.rul (w1.alloc (.cells #[.slice A 1 c, .slice none 0 0] 140)) A [exRul] := hs1.mono (bw_alloc (Below.refl _ _))
  go_wp2_with fail
  refine (polText_ex A c _ (hg.mono hbw1) hs2).mono ?_
  rintro e w2 ⟨rfl, hb2⟩
  have hbw2 := below_step hbw1 hb2
  have bx2 := bx1.mono hb2
  have p0 := bx2.cell 0 rfl
  have p1 := bx2.cell 1 rfl
  have pl := bx2.lt
  have HT := tags_any A none c 0 0 [exRul] w2 (by decide) (hs2.mono hb2)
  rw [exTags] at HT
  replace HT := Lib.hid HT
  go_wp2_with fail
  refine HT.out.mono ?_
  rintro e w3 ⟨⟨v3, rfl, ho3⟩, hb3⟩
  obtain ⟨A3, c3, rfl, hc3, hs3⟩ := ho3.sl (L := Lay.str) rfl (fun x => rfl)
  go_wp2_with fail
  go_ret
  exact ⟨rfl, below_step hbw2 hb3⟩
end Go.Proofs.YtmhdambkchlilaaGreatDoor
