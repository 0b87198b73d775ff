/-
  Chapter 42: the law's awake.
-/
import Derived.Test.YthabojhnliomnaaGreatDoorPolF
namespace Go.Proofs.YthabojhnliomnaaGreatDoor
open Go.RowKit
set_option linter.unusedVariables false

theorem below_drewN' (w : World) (n : Nat) : Below w.heap.size w (w.drewN n) := below_drewN (Below.refl _ _) n
theorem cut_text (w : World) (hg : Glob w) : Calls Tryz.prog 42 #[.string bText, .string ⟨#[10]⟩] w fun e w' => e = .returned (.tuple #[.string bLine, .string ⟨#[]⟩, .bool true]) ∧ Below w.heap.size w w' := by
  obtain ⟨m, hm⟩ := hg.ml
  refine (Tryz.strings_Cut bText ⟨#[10]⟩ m w (by decide) hm).mono ?_
  rintro e w' ⟨rfl, n, rfl⟩
  exact ⟨by kernel_rfl, below_drewN' _ _⟩
theorem cut_none (w : World) (hg : Glob w) : Calls Tryz.prog 42 #[.string ⟨#[]⟩, .string ⟨#[10]⟩] w fun e w' => e = .returned (.tuple #[.string ⟨#[]⟩, .string ⟨#[]⟩, .bool false]) ∧ Below w.heap.size w w' := by
  obtain ⟨m, hm⟩ := hg.ml
  refine (Tryz.strings_Cut ⟨#[]⟩ ⟨#[10]⟩ m w (by decide) hm).mono ?_
  rintro e w' ⟨rfl, n, rfl⟩
  exact ⟨by kernel_rfl, below_drewN' _ _⟩
def bRest : ByteArray := ⟨#[83, 32, 103, 101, 116, 32, 114, 101, 115, 117, 108, 116, 32, 115, 101, 99, 114, 101, 116]⟩
theorem cut_line (w : World) (hg : Glob w) : Calls Tryz.prog 42 #[.string bLine, .string ⟨#[32]⟩] w fun e w' => e = .returned (.tuple #[.string bSource, .string bRest, .bool true]) ∧ Below w.heap.size w w' := by
  obtain ⟨m, hm⟩ := hg.ml
  refine (Tryz.strings_Cut bLine ⟨#[32]⟩ m w (by decide) hm).mono ?_
  rintro e w' ⟨rfl, n, rfl⟩
  exact ⟨by kernel_rfl, below_drewN' _ _⟩
theorem contains_none (w : World) : Calls Tryz.prog 45 #[.string ⟨#[]⟩, .string ⟨#[10]⟩] w fun e w' => e = .returned (.bool false) ∧ w' = w := Tryz.strings_Contains_one ⟨#[]⟩ 10 w
theorem begins_line (w : World) (hg : Glob w) : Calls Tryz.prog 43 #[.string bLine] w fun e w' => e = .returned (.bool false) ∧ Below w.heap.size w w' := by
  have t1 : (bSource.toList == ([112, 114, 111, 116, 111, 99, 111, 108] : List UInt8)) = false := by kernel_rfl
  have t2 : (bSource.toList == (ByteArray.mk #[112, 114, 111, 116, 111, 99, 111, 108]).toList) = false := by kernel_rfl
  go_enter Tryz.func43, Tryz.ntmps43
  go_wp2_with fail
  refine (cut_line _ hg).mono ?_
  rintro e w1 ⟨rfl, hb1⟩
  go_wp2_with fail
  go_ret
  exact ⟨rfl, hb1⟩
def cellsEx (_ : Unit) : List Value := exCells
theorem cellsEx_ok : CellsOk cellsEx 8 := ⟨fun _ => rfl, fun _ u hu => by simp [cellsEx, exCells] at hu; rcases hu with rfl | rfl | rfl | rfl | rfl | rfl | rfl | rfl <;> rfl⟩
theorem rulsTy : ElemTy Tryz.prog 22 51 8 104 (.agg #[.int .i64 0, .string ⟨#[]⟩, .string ⟨#[]⟩, .int .i64 0, .int .i64 0, .slice none 0 0, .bool false, .string ⟨#[]⟩]) := ⟨Tryz.underlying22, by kernel_rfl, rfl, by omega⟩
def RetP (w' : World) (e : Ending) : Prop := ∃ A c, e = .returned (.tuple #[.agg #[.slice A 1 c, .slice none 0 0], .int .i64 0, .int .i64 0]) ∧ Sl Lay.rul w' A [exRul]
theorem own_exSl {w : World} {base : Nat} {A : Option Addr} {n c : Nat} (h : Own cellsEx 8 base 51 w (.slice A n c) [()]) : n = 1 ∧ Sl Lay.rul w A [exRul] := by
  obtain ⟨g, rfl, hb, hlt, hn⟩ := h.form (by simp)
  refine ⟨hn, exSl rfl hlt fun j u hj => ?_⟩
  have := World.ownsRow.cells h (g := g) rfl j u (by simpa [cellsEx] using hj)
  rw [add_form] at this
  simpa using this
set_option maxRecDepth 100000 in
set_option maxHeartbeats 2000000 in
theorem polParse_ex (w : World) (hg : Glob w) :
    Calls Tryz.prog 15 #[.string bText] w fun e w' => RetP w' e ∧ Below w.heap.size w w' := by
  have hsz : bText.size = 27 := rfl
  have hb0 : Below w.heap.size w ((w.alloc (.cells #[.slice none 0 0, .slice none 0 0] 25)).alloc (.cells #[.slice none 0 0, .slice none 0 0] 25)) := (by repeat (first | assumption | exact Below.refl _ _ | apply bw_alloc | apply bw_drew | apply bw_drewN | apply bw_later | apply bw_step))
  have br0 : Box ((w.alloc (.cells #[.slice none 0 0, .slice none 0 0] 25)).alloc (.cells #[.slice none 0 0, .slice none 0 0] 25)) w.heap.size [.slice none 0 0, .slice none 0 0] 25 := (Box.new _ _ _).alloc _
  have bp0 : Box ((w.alloc (.cells #[.slice none 0 0, .slice none 0 0] 25)).alloc (.cells #[.slice none 0 0, .slice none 0 0] 25)) (w.heap.size + 1) [.slice none 0 0, .slice none 0 0] 25 := Box.at (by simp)
  go_enter Tryz.func15, Tryz.ntmps15
  go_wp2_with fail
  refine wp_loop_rounds 2 ?_
  rw [rounds_succ]
  go_wp2_with fail
  refine (cut_text _ (hg.mono hb0)).mono ?_
  rintro e w1 ⟨rfl, hb1⟩
  have hbw1 := below_step hb0 hb1
  go_wp2_with fail
  refine (begins_line _ (hg.mono hbw1)).mono ?_
  rintro e w2 ⟨rfl, hb2⟩
  have hbw2 := below_step hbw1 hb2
  go_wp2_with fail
  refine (parseRule_line _ (hg.mono hbw2)).mono ?_
  rintro e w3 ⟨rfl, hb3⟩
  have hbw3 := below_step hbw2 hb3
  have br3 := ((br0.mono hb1).mono hb2).mono hb3
  have bp3 := ((bp0.mono hb1).mono hb2).mono hb3
  clear br0 bp0 hb0 hb1 hb2 hb3
  have p0 := bp3.cell 0 rfl
  have pl := bp3.lt
  obtain ⟨W4, hW4⟩ : ∃ W4 : World, W4 = w3.alloc (.cells #[.int .i64 1, .string bS, .string bGet, .int .i64 2, .int .i64 0, .slice none 0 0, .bool false, .string bSecret] 51) := ⟨_, rfl⟩
  have hz4 : W4.heap.size = w3.heap.size + 1 := by rw [hW4]; simp
  have hb34 : Below w3.heap.size w3 W4 := by rw [hW4]; exact (by repeat (first | assumption | exact Below.refl _ _ | apply bw_alloc | apply bw_drew | apply bw_drewN | apply bw_later | apply bw_step))
  have hw3z := hbw3.size
  obtain ⟨v5, w5, hrun, ho5, hb5, hg5, hz5⟩ := run_push rulsTy cellsEx_ok 22 (Own.nil : Own cellsEx 8 w.heap.size 51 (W4.alloc (.cells exCells.toArray 51)) (.slice none 0 0) []) () W4.heap.size 1 (fun j u hj => (Box.new W4 exCells 51).cell j hj) (by simp [maxLen]) (by simp) (by simp; omega)
  have hb45 : Below w3.heap.size w3 (W4.alloc (.cells exCells.toArray 51)) := bw_alloc hb34
  have bp5 := (bp3.mono hb45).grown hg5 (by simp [Value.ownBlock])
  have br5 := (br3.mono hb45).grown hg5 (by simp [Value.ownBlock])
  have hbw5 : Below w.heap.size w w5 := (hbw3.trans (hb45.mono hw3z)).trans hb5
  rw [hz4] at hrun
  rw [hW4] at hrun
  unfold exCells at hrun
  obtain ⟨A5, n5, c5, rfl⟩ := ho5.isSl
  have q0 := bp5.cell 0 rfl
  have ql := bp5.lt
  have qf := fun i => bp5.free i
  clear hW4 hz4 hb34 hb45 hb5 hg5 hz5
  go_wp2_with (at_builtin; refine wpList_appendRun rfl (.tmp 50) (.tmp 52) 22 rfl rfl rfl hrun ?_)
  have bp6 := bp5.set 0 (.slice A5 n5 c5)
  have br6 := br5.setOther (p := ⟨w.heap.size + 1, 0, none⟩) (by simp) (.slice A5 n5 c5)
  have hg6 := grown_set w5 (w.heap.size + 1) 0 (.slice A5 n5 c5)
  have ho6 := ho5.kept_box bp5 (by decide) hg6
  have hbw6 : Below w.heap.size w (w5.setCell ⟨w.heap.size + 1, 0, none⟩ (.slice A5 n5 c5)) := hbw5.setCell (by simp) _
  obtain ⟨rfl, hs6⟩ := own_exSl ho6
  generalize World.setCell _ _ _ = w6 at *
  rw [rounds_succ]
  go_wp2_with fail
  refine (cut_none _ (hg.mono hbw6)).mono ?_
  rintro e w7 ⟨rfl, hb7⟩
  have hbw7 := below_step hbw6 hb7
  have bp7 := bp6.mono hb7
  have br7 := br6.mono hb7
  have hs7 := hs6.mono hb7
  have ho7 := ho6.mono hb7
  clear bp6 br6 hs6 ho6 hg6 q0 ql qf bp5 br5 ho5 bp3 br3 p0 pl
  go_wp2_with fail
  refine wp_loop_rounds 1 ?_
  rw [rounds_succ]
  go_wp2_with fail
  refine (contains_none _).mono ?_
  rintro e w8 ⟨rfl, rfl⟩
  have q0 := bp7.cell 0 rfl
  have q1 := bp7.cell 1 rfl
  have ql := bp7.lt
  go_wp2_with fail
  refine (polCheck_ex A5 c5 _ (hg.mono hbw7) hs7).mono ?_
  rintro e w9 ⟨rfl, hb9⟩
  have hbw9 := below_step hbw7 hb9
  have bp9 := bp7.mono hb9
  have br9 := br7.mono hb9
  have hs9 := hs7.mono hb9
  have x0 := bp9.cell 0 rfl
  have x1 := bp9.cell 1 rfl
  have xl := bp9.lt
  have y0 := br9.cell 0 rfl
  have y1 := br9.cell 1 rfl
  have yl := br9.lt
  have yf := fun i => br9.free i
  obtain ⟨bx2, hg2⟩ := br9.store2 (.slice A5 1 c5) (.slice none 0 0)
  have z0 := bx2.cell 0 rfl
  have z1 := bx2.cell 1 rfl
  have hbwA := hbw9.grown hg2 hbw9.size (fun k hk => by injection hk with hk; omega)
  have hoA := (ho7.mono hb9).kept_box br9 (by decide) hg2
  have hsA := (own_exSl hoA).2
  clear ho7 hoA hs7 hs9
  go_wp2_with fail
  refine bodyPost_ret (v := .tuple #[.agg #[.slice A5 1 c5, .slice none 0 0], .int .i64 0, .int .i64 0]) (by simp [results, Tryz.results15, go_sem, z0, z1]) rfl ⟨⟨A5, c5, rfl, hsA⟩, hbwA⟩
theorem exTags : ascS (srcT [exRul]) = [bSecret] := by kernel_rfl
set_option maxRecDepth 100000 in
set_option maxHeartbeats 2000000 in
theorem awake_any (w : World) (hg : Glob w) : Calls Tryz.prog 12 #[] w fun e w' => e = .returned (.bool true) ∧ Below w.heap.size w w' := by
  have t1 : bText.toList = [115, 111, 117, 114, 99, 101, 32, 83, 32, 103, 101, 116, 32, 114, 101, 115, 117, 108, 116, 32, 115, 101, 99, 114, 101, 116, 10] := by kernel_rfl
  go_enter Tryz.func12, Tryz.ntmps12
  go_wp2_with fail
  refine (polParse_ex _ hg).mono ?_
  rintro e w1 ⟨⟨A, c, rfl, hs1⟩, hb1⟩
  have bx1 := Box.new w1 [.slice A 1 c, .slice none 0 0] 25
  have hbw1 : Below w.heap.size w (w1.alloc (.cells #[.slice A 1 c, .slice none 0 0] 25)) := bw_alloc hb1
  have hs2 : Sl Lay.rul (w1.alloc (.cells #[.slice A 1 c, .slice none 0 0] 25)) A [exRul] := hs1.mono (bw_alloc (Below.refl _ _))
  go_wp2_with fail
  refine (polText_ex A c _ (hg.mono hbw1) hs2).mono ?_
  rintro e w2 ⟨rfl, hb2⟩
  have hbw2 := below_step hbw1 hb2
  have bx2 := bx1.mono hb2
  have p0 := bx2.cell 0 rfl
  have p1 := bx2.cell 1 rfl
  have pl := bx2.lt
  have HT := tags_any A none c 0 0 [exRul] w2 (by decide) (hs2.mono hb2)
  rw [exTags] at HT
  replace HT := Lib.hid HT
  go_wp2_with fail
  refine HT.out.mono ?_
  rintro e w3 ⟨⟨v3, rfl, ho3⟩, hb3⟩
  obtain ⟨A3, c3, rfl, hc3, hs3⟩ := ho3.sl (L := Lay.str) rfl (fun x => rfl)
  go_wp2_with fail
  go_ret
  exact ⟨rfl, below_step hbw2 hb3⟩
end Go.Proofs.YthabojhnliomnaaGreatDoor
