/-
  Chapter 10: hier.Of.
-/
import Derived.Test.YtafincpkehlcfaaOfA
namespace Go.Proofs.Ytafincpkehlcfaa
open Go.RowKit
set_option linter.unusedVariables false

def MthOk (m : Mth) : Prop := m.params.length * 16 ≤ 140737488355328
def SClsOk (c : SCls) : Prop := c.fields.length * 32 ≤ 140737488355328 ∧ c.methods.length * 64 ≤ 140737488355328 ∧ ∀ m ∈ c.methods, MthOk m
def SrcOk (cs : List SCls) : Prop := cs.length * 80 ≤ 140737488355328 ∧ ∀ c ∈ cs, SClsOk c
theorem Own.isSlice {α : Type} {cells : α → List Value} {size base : Nat} {e : TypeId} {w : World} {v : Value} {l : List α} (h : Own cells size base e w v l) : ∃ A n c, v = .slice A n c := by
  rcases h.2 with ⟨rfl, _⟩ | ⟨g, cap, cur, rfl, _⟩
  · exact ⟨_, _, _, rfl⟩
  · exact ⟨_, _, _, rfl⟩
theorem cells_four_new (w : World) (a b c d : Value) (t : TypeId) : ∀ j v, [a, b, c, d][j]? = some v → (w.alloc (.cells #[a, b, c, d] t)).cell? ⟨w.heap.size, j, none⟩ = some v := fun j v hj => (Box.new w [a, b, c, d] t).cell j hj

/-- One method's signature: the loop over its parameters. -/
structure InMth (wm : World) (bm bs : Nat) (m : Mth) (Ap : Option Addr) (cp : Nat) (i : Nat) (wp : World) : Prop where
  bm : Box wp bm [.string m.name, .bool m.static, .slice Ap m.params.length cp, .string m.result, .slice m.body.A m.body.n m.body.c] 48
  bs : ∃ A n c, Box wp bs [.string m.name, .bool m.static, .slice A n c, .string m.result] 40 ∧ Own cellsStr 1 wm.heap.size 9 wp (.slice A n c) ((m.params.take i).map (·.typ))
  bel : Below wm.heap.size wm wp
/-- One class: the loop over its methods. -/
structure InCls (wc : World) (bc bd : Nat) (s : SCls) (A2 A3 : Option Addr) (c2 c3 : Nat) (j : Nat) (wq : World) : Prop where
  bc : Box wq bc [.string s.name, .string s.super, .slice A2 s.fields.length c2, .slice A3 s.methods.length c3] 44
  bd : ∃ AF nF cF AM nM cM, Box wq bd [.string s.name, .string s.super, .slice AF nF cF, .slice AM nM cM] 35 ∧ Own cellsFld 2 wc.heap.size 37 wq (.slice AF nF cF) s.fields ∧
    ∃ rs, Own cellsRSg 4 wc.heap.size 40 wq (.slice AM nM cM) rs ∧ SgsAt wq wc.heap.size rs ((s.methods.take j).map ofM)
  bel : Below wc.heap.size wc wq
/-- The loop over the classes. -/
structure InSrc (w : World) (b : Nat) (A : Option Addr) (c : Nat) (cs : List SCls) (k : Nat) (wr : World) : Prop where
  b0 : Box wr b [.slice A cs.length c] 24
  b1 : Box wr (b + 1) [.slice none 0 0] 28
  b2 : ∃ A' n' c' rs, Box wr (b + 1 + 1) [.slice A' n' c'] 28 ∧ Own cellsRCls 4 w.heap.size 35 wr (.slice A' n' c') rs ∧ ClssAt wr w.heap.size rs ((cs.take k).map ofC)
  bel : Below w.heap.size w wr

theorem InMth.push {wm wp : World} {bm bs : Nat} {m : Mth} {Ap : Option Addr} {cp i : Nat} (h : InMth wm bm bs m Ap cp i wp) (hwm : wm.heap.size ≤ bm ∧ bm < bs) (hi : i < m.params.length) (hok : MthOk m) (f : Obj) :
    ∃ A n c, Box (wp.alloc f) bs [.string m.name, .bool m.static, .slice A n c, .string m.result] 40 ∧ ∃ v' w', (Builtin.append_ #[38, 38] 38 #[.slice A n c, .slice (some ⟨wp.heap.size + 1, 0, none⟩) 1 1]).run Try.prog ((wp.alloc f).alloc (.cells #[.string m.params[i].typ] 9)) = .ok v' w' ∧
      Box w' bs [.string m.name, .bool m.static, .slice A n c, .string m.result] 40 ∧ (∃ B q d, v' = .slice B q d) ∧ InMth wm bm bs m Ap cp (i + 1) (w'.setCell ⟨bs, 2, none⟩ v') := by
  obtain ⟨A, n, c, hbs, hown⟩ := h.bs
  have hsz := h.bel.size
  have hb1 : Below wp.heap.size wp ((wp.alloc f).alloc (.cells #[.string m.params[i].typ] 9)) := (by repeat (first | assumption | exact Below.refl _ _ | apply bw_alloc | apply bw_drew | apply bw_drewN | apply bw_later | apply bw_step))
  have hlen : ((m.params.take i).map (·.typ)).length = i := by simp; omega
  have hs1 : (wp.alloc f).heap.size = wp.heap.size + 1 := by simp
  unfold MthOk at hok
  obtain ⟨v', w', hrun, ho', hb', hg', hsz'⟩ := run_push strsTy cellsStr_ok 38 (hown.mono hb1) m.params[i].typ (wp.heap.size + 1) 1 (by rw [← hs1]; exact cells_one_new _ _ _) (by rw [hlen]; unfold maxLen; omega) (by rw [hlen]; omega) (by have := hb1.size; omega)
  have hbs1 := hbs.mono hb1
  have hbs' := hbs1.grown hg' ((hown.mono hb1).ne_box hbs1 (by decide))
  have hbm1 := h.bm.mono hb1
  have hbm' := hbm1.grown hg' ((hown.mono hb1).ne_box hbm1 (by decide))
  obtain ⟨A', n', c', rfl⟩ := ho'.isSlice
  refine ⟨A, n, c, hbs.alloc _, _, w', hrun, hbs', ⟨_, _, _, rfl⟩, ?_, ⟨A', n', c', hbs'.set 2 _, ?_⟩, ?_⟩
  · exact hbm'.setOther (by simp; omega) _
  · rw [List.take_succ_eq_append_getElem hi, List.map_append]
    exact ho'.kept_box hbs' (by decide) (grown_set _ _ _ _)
  · exact ((h.bel.trans (hb1.mono hsz)).trans hb').setCell (by simp; omega) _

theorem InMth.pushW {wm wp W1 : World} {bm bs : Nat} {m : Mth} {Ap : Option Addr} {cp i : Nat} (h : InMth wm bm bs m Ap cp i wp) (hwm : wm.heap.size ≤ bm ∧ bm < bs) (hi : i < m.params.length) (hok : MthOk m) (hbW : Below wp.heap.size wp W1) :
    ∃ A n c, Box W1 bs [.string m.name, .bool m.static, .slice A n c, .string m.result] 40 ∧ ∃ v' w', (Builtin.append_ #[38, 38] 38 #[.slice A n c, .slice (some ⟨W1.heap.size, 0, none⟩) 1 1]).run Try.prog (W1.alloc (.cells #[.string m.params[i].typ] 9)) = .ok v' w' ∧
      Box w' bs [.string m.name, .bool m.static, .slice A n c, .string m.result] 40 ∧ (∃ B q d, v' = .slice B q d) ∧ Below wm.heap.size wp w' ∧ InMth wm bm bs m Ap cp (i + 1) (w'.setCell ⟨bs, 2, none⟩ v') := by
  obtain ⟨A, n, c, hbs, hown⟩ := h.bs
  have hsz := h.bel.size
  have hb1 : Below wp.heap.size wp (W1.alloc (.cells #[.string m.params[i].typ] 9)) := bw_alloc hbW
  have hlen : ((m.params.take i).map (·.typ)).length = i := by simp; omega
  unfold MthOk at hok
  obtain ⟨v', w', hrun, ho', hb', hg', hsz'⟩ := run_push strsTy cellsStr_ok 38 (hown.mono hb1) m.params[i].typ W1.heap.size 1 (cells_one_new _ _ _) (by rw [hlen]; unfold maxLen; omega) (by rw [hlen]; omega) (by have := hb1.size; omega)
  have hbs1 := hbs.mono hb1
  have hbs' := hbs1.grown hg' ((hown.mono hb1).ne_box hbs1 (by decide))
  have hbm1 := h.bm.mono hb1
  have hbm' := hbm1.grown hg' ((hown.mono hb1).ne_box hbm1 (by decide))
  obtain ⟨A', n', c', rfl⟩ := ho'.isSlice
  refine ⟨A, n, c, hbs.mono hbW, _, w', hrun, hbs', ⟨_, _, _, rfl⟩, (hb1.mono hsz).trans hb', ?_, ⟨A', n', c', hbs'.set 2 _, ?_⟩, ?_⟩
  · exact hbm'.setOther (by simp; omega) _
  · rw [List.take_succ_eq_append_getElem hi, List.map_append]
    exact ho'.kept_box hbs' (by decide) (grown_set _ _ _ _)
  · exact ((h.bel.trans (hb1.mono hsz)).trans hb').setCell (by simp; omega) _

theorem InCls.push {wc wm wp : World} {bc bd bm bs : Nat} {s : SCls} {A2 A3 Ap : Option Addr} {c2 c3 cp j : Nat} (h : InCls wc bc bd s A2 A3 c2 c3 j wm) (hj : j < s.methods.length) (h2 : InMth wm bm bs s.methods[j] Ap cp s.methods[j].params.length wp) (hbc : wc.heap.size ≤ bc ∧ wc.heap.size ≤ bd ∧ bc ≠ bd) (hok : SClsOk s) :
    ∃ A n c AF nF cF AM nM cM, Box wp bs [.string s.methods[j].name, .bool s.methods[j].static, .slice A n c, .string s.methods[j].result] 40 ∧ Box wp bd [.string s.name, .string s.super, .slice AF nF cF, .slice AM nM cM] 35 ∧
      ∃ v' w', (Builtin.append_ #[33, 33] 33 #[.slice AM nM cM, .slice (some ⟨wp.heap.size, 0, none⟩) 1 1]).run Try.prog (wp.alloc (.cells #[.string s.methods[j].name, .bool s.methods[j].static, .slice A n c, .string s.methods[j].result] 40)) = .ok v' w' ∧
      Box w' bd [.string s.name, .string s.super, .slice AF nF cF, .slice AM nM cM] 35 ∧ (∃ B q d, v' = .slice B q d) ∧ InCls wc bc bd s A2 A3 c2 c3 (j + 1) (w'.setCell ⟨bd, 3, none⟩ v') := by
  obtain ⟨A, n, c, hbs, hpar⟩ := h2.bs
  obtain ⟨AF, nF, cF, AM, nM, cM, hbd, hfl, rs, hms, hat⟩ := h.bd
  have hsz := h.bel.size
  have hsz2 := h2.bel.size
  have hbp := h2.bel
  have hb1 : Below wp.heap.size wp (wp.alloc (.cells #[.string s.methods[j].name, .bool s.methods[j].static, .slice A n c, .string s.methods[j].result] 40)) := (by repeat (first | assumption | exact Below.refl _ _ | apply bw_alloc | apply bw_drew | apply bw_drewN | apply bw_later | apply bw_step))
  have hbm := below_step hbp hb1
  have hlen : rs.length = j := by rw [hat.len]; simp; omega
  have hms1 := hms.mono hbm
  have hat1 := hat.mono hbm
  have hfl1 := hfl.mono hbm
  have hbd1 := hbd.mono hbm
  have hbc1 := h.bc.mono hbm
  have hpar1 := hpar.mono hb1
  obtain ⟨v', w', hrun, ho', hb', hg', hsz'⟩ := run_push sgsTy cellsRSg_ok 33 hms1 ⟨s.methods[j].name, s.methods[j].static, A, n, c, s.methods[j].result⟩ wp.heap.size 1 (cells_four_new _ _ _ _ _ _) (by rw [hlen]; unfold maxLen; have := hok.2.1; omega) (by rw [hlen]; have := hok.2.1; omega) (by have := hb1.size; omega)
  have hbd' := hbd1.grown hg' (hms1.ne_box hbd1 (by decide))
  have hbc' := hbc1.grown hg' (hms1.ne_box hbc1 (by decide))
  have hat' := hat1.keptTy hms1.rowTy (by decide) hg'
  have hfl' := hfl1.keptTy hms1.rowTy (by decide) hg'
  have hpar' := hpar1.keptTy hms1.rowTy (by decide) hg'
  obtain ⟨A', n', c', rfl⟩ := ho'.isSlice
  have hgs := grown_set w' bd 3 (.slice A' n' c')
  refine ⟨A, n, c, AF, nF, cF, AM, nM, cM, hbs, hbd.mono hbp, _, w', hrun, hbd', ⟨_, _, _, rfl⟩, ?_, ⟨AF, nF, cF, A', n', c', hbd'.set 3 _, hfl'.kept_box hbd' (by decide) hgs, _, ho'.kept_box hbd' (by decide) hgs, ?_⟩, ?_⟩
  · exact hbc'.setOther (by simp; exact fun h => hbc.2.2 h.symm) _
  · rw [List.take_succ_eq_append_getElem hj, List.map_append]
    refine SgsAt.snoc (hat'.keptTy hbd'.rowTy (by decide) hgs) ⟨rfl, rfl, rfl, ?_⟩
    have := hpar'.kept_box hbd' (by decide) hgs
    rw [List.take_length] at this
    exact this.base_le hsz
  · exact ((h.bel.trans (hbm.mono hsz)).trans hb').setCell (by simp; exact hbc.2.1) _

theorem InSrc.push {w wc wq : World} {b bc bd : Nat} {A A2 A3 : Option Addr} {c c2 c3 k : Nat} {cs : List SCls} (h : InSrc w b A c cs k wc) (hk : k < cs.length) (h2 : InCls wc bc bd cs[k] A2 A3 c2 c3 cs[k].methods.length wq) (hb : w.heap.size ≤ b) (hok : SrcOk cs) :
    ∃ AF nF cF AM nM cM A' n' c', Box wq bd [.string cs[k].name, .string cs[k].super, .slice AF nF cF, .slice AM nM cM] 35 ∧ Box wq (b + 1 + 1) [.slice A' n' c'] 28 ∧
      ∃ v' w', (Builtin.append_ #[26, 26] 26 #[.slice A' n' c', .slice (some ⟨wq.heap.size, 0, none⟩) 1 1]).run Try.prog (wq.alloc (.cells #[.string cs[k].name, .string cs[k].super, .slice AF nF cF, .slice AM nM cM] 35)) = .ok v' w' ∧
      Box w' (b + 1 + 1) [.slice A' n' c'] 28 ∧ (∃ B q d, v' = .slice B q d) ∧ InSrc w b A c cs (k + 1) (w'.setCell ⟨b + 1 + 1, 0, none⟩ v') := by
  obtain ⟨AF, nF, cF, AM, nM, cM, hbd, hfl, rs, hms, hat⟩ := h2.bd
  obtain ⟨A', n', c', rcs, hbh, hcl, hcat⟩ := h.b2
  have hsz := h.bel.size
  have hsz2 := h2.bel.size
  have hb1 : Below wq.heap.size wq (wq.alloc (.cells #[.string cs[k].name, .string cs[k].super, .slice AF nF cF, .slice AM nM cM] 35)) := (by repeat (first | assumption | exact Below.refl _ _ | apply bw_alloc | apply bw_drew | apply bw_drewN | apply bw_later | apply bw_step))
  have hbm := below_step h2.bel hb1
  have hlen : rcs.length = k := by rw [hcat.len]; simp; omega
  have hcl1 := hcl.mono hbm
  have hcat1 := hcat.mono hbm
  have hbh1 := hbh.mono hbm
  have hb01 := h.b0.mono hbm
  have hb11 := h.b1.mono hbm
  obtain ⟨v', w', hrun, ho', hb', hg', hsz'⟩ := run_push clssTy cellsRCls_ok 26 hcl1 ⟨cs[k].name, cs[k].super, AF, nF, cF, AM, nM, cM⟩ wq.heap.size 1 (cells_four_new _ _ _ _ _ _) (by rw [hlen]; unfold maxLen; have := hok.1; omega) (by rw [hlen]; have := hok.1; omega) (by have := hb1.size; omega)
  have hnew : ClsAt wq wc.heap.size ⟨cs[k].name, cs[k].super, AF, nF, cF, AM, nM, cM⟩ (ofC cs[k]) := ⟨rfl, rfl, hfl, rs, hms, by have := hat; rwa [List.take_length] at this⟩
  have hnew1 := (hnew.base_le hsz).mono hb1
  have hnew' := hnew1.keptTy hcl1.rowTy (by decide) (by decide) (by decide) hg'
  have hcat' := hcat1.keptTy hcl1.rowTy (by decide) (by decide) (by decide) hg'
  have hbh' := hbh1.grown hg' (hcl1.ne_box hbh1 (by decide))
  have hb0' := hb01.grown hg' (hcl1.ne_box hb01 (by decide))
  have hb1' := hb11.grown hg' (hcl1.ne_box hb11 (by decide))
  obtain ⟨A'', n'', c'', rfl⟩ := ho'.isSlice
  have hgs := grown_set w' (b + 1 + 1) 0 (.slice A'' n'' c'')
  refine ⟨AF, nF, cF, AM, nM, cM, A', n', c', hbd, hbh.mono h2.bel, _, w', hrun, hbh', ⟨_, _, _, rfl⟩, ?_, ?_, ⟨A'', n'', c'', _, hbh'.set 0 _, ho'.kept_box hbh' (by decide) hgs, ?_⟩, ?_⟩
  · exact hb0'.setOther (by simp; omega) _
  · exact hb1'.setOther (by simp) _
  · rw [List.take_succ_eq_append_getElem hk, List.map_append]
    exact ClssAt.snoc (hcat'.keptTy hbh'.rowTy (by decide) (by decide) (by decide) hgs) (hnew'.keptTy hbh'.rowTy (by decide) (by decide) (by decide) hgs)
  · exact ((h.bel.trans (hbm.mono hsz)).trans hb').setCell (by simp; omega) _
end Go.Proofs.Ytafincpkehlcfaa
