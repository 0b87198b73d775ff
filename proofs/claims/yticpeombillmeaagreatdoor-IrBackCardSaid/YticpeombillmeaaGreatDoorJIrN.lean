/-
  Chapter 13: the reader of a unit in memory: raw rows, what is done and what is under way.
-/
import Derived.Test.YticpeombillmeaaGreatDoorJIp
import Derived.Test.YticpeombillmeaaGreatDoorJGa
namespace Go.Proofs.YticpeombillmeaaGreatDoor
open Go.RowKit
set_option linter.unusedVariables false

/-! ### A store into one element of a row -/
theorem flatMap_setAt {α : Type} {cells : α → List Value} {size : Nat} (hsz : ∀ x, (cells x).length = size) : ∀ (l : List α) (i : Nat) (hi : i < l.length) (j : Nat) (u : Value) (y : α), j < size → cells y = (cells l[i]).set j u → (l.flatMap cells).set (i * size + j) u = (l.set i y).flatMap cells
  | [], i, hi, j, u, y, _, _ => by simp at hi
  | x :: l, 0, hi, j, u, y, hj, h => by
    rw [List.flatMap_cons, Nat.zero_mul, Nat.zero_add, List.set_append_left _ _ (by rw [hsz]; exact hj), List.set_cons_zero, List.flatMap_cons, h]
    rfl
  | x :: l, i + 1, hi, j, u, y, hj, h => by
    rw [List.flatMap_cons, List.set_append_right _ _ (by rw [hsz, Nat.succ_mul]; omega), hsz, List.set_cons_succ, List.flatMap_cons]
    have e : (i + 1) * size + j - size = i * size + j := by rw [Nat.succ_mul]; omega
    rw [e, flatMap_setAt hsz l i (by simpa using hi) j u y hj (by simpa using h)]
section
variable {α : Type} {cells : α → List Value} {size base : Nat} {e : TypeId} {w w' : World} {l : List α} {g n cap : Nat}
theorem Own.setAt (hc : CellsOk cells size) (h : Own cells size base e w (.slice (some ⟨g, 0, none⟩) n cap) l) (hn : l.length = n) {i : Nat} (hi : i < l.length) {j : Nat} (hj : j < size) (u : Value) (y : α) (hy : cells y = (cells l[i]).set j u) :
    Own cells size base e (w.setCell ⟨g, i * size + j, none⟩ u) (.slice (some ⟨g, 0, none⟩) n cap) (l.set i y) := by
  subst hn
  have := (World.ownsRow.stored h (i * size + j) u).1
  unfold Own
  rw [flatMap_setAt hc.len l i hi j u y hj hy] at this
  rw [List.length_set]
  exact this
theorem Own.cellOf (hc : CellsOk cells size) (h : Own cells size base e w (.slice (some ⟨g, 0, none⟩) n cap) l) (hn : l.length = n) {i : Nat} (hi : i < l.length) {j : Nat} {u : Value} (hu : (cells l[i])[j]? = some u) : w.cell? ⟨g, i * size + j, none⟩ = some u := by
  subst hn
  have h1 := flatMap_at hc.len l i hi j u hu
  have hj : j < size := by rw [← hc.len l[i]]; exact (List.getElem?_eq_some_iff.1 hu).1
  have h2 : i * size + j < l.length * size := by
    have := Nat.mul_le_mul_right size (show i + 1 ≤ l.length by omega)
    rw [Nat.succ_mul] at this
    omega
  rw [World.ownsRow.cellAt h (i * size + j) h2]
  exact h1
theorem Own.freeOf (h : Own cells size base e w (.slice (some ⟨g, 0, none⟩) n cap) l) (hn : l.length = n) (i : Nat) : w.frozen? ⟨g, i, none⟩ = false := by
  subst hn
  exact World.ownsRow.frozenAt h i
theorem Own.ltOf (h : Own cells size base e w (.slice (some ⟨g, 0, none⟩) n cap) l) : base ≤ g ∧ g < w.heap.size := World.ownsRow.lt h g rfl
/-- A row that holds something lies in a block. -/
theorem Own.someOf {v : Value} (h : Own cells size base e w v l) (hl : 0 < l.length) : ∃ g c, v = .slice (some ⟨g, 0, none⟩) l.length c := by
  rcases h.2 with ⟨_, h0⟩ | ⟨g, cap, cur, hv, _⟩
  · omega
  · exact ⟨g, cap, hv⟩
theorem Own.sliceOf {v : Value} (h : Own cells size base e w v l) : ∃ A c, v = .slice A l.length c := by
  rcases h.2 with ⟨hv, h0⟩ | ⟨g, cap, cur, hv, _⟩
  · exact ⟨none, 0, by rw [hv, h0]⟩
  · exact ⟨_, cap, hv⟩
theorem Own.keptGe {v : Value} {row : Option Nat} {m : Nat} (h : Own cells size base e w v l) (hb : ∀ k, v.ownBlock = some k → k < m) (hr : ∀ k, row = some k → m ≤ k) (hg : w.grownBy w' row) : Own cells size base e w' v l :=
  h.kept hg fun b hb1 hb2 => by
    have := hb b hb2
    have := hr b hb1
    omega
end
/-- Whatever block the row names is one of type t. -/
def RowTyI (w : World) (row : Option Nat) (t : TypeId) : Prop := ∀ b, row = some b → ∃ cs fr, w.heap[b]? = some (.cells cs t fr)
section
variable {α : Type} {cells : α → List Value} {size base : Nat} {e : TypeId} {w w' : World} {v : Value} {l : List α}
theorem Own.rowTyI (h : Own cells size base e w v l) : RowTyI w v.ownBlock e := fun b hb => by
  rcases h.2 with ⟨rfl, _⟩ | ⟨g, cap, cur, rfl, _, hh, _⟩
  · simp [Value.ownBlock] at hb
  · have : g = b := by simpa [Value.ownBlock] using hb
    subst this
    exact ⟨_, _, hh⟩
theorem Box.rowTyI {b : Nat} {cs : List Value} {t : TypeId} (h : Box w b cs t) : RowTyI w (some b) t := fun b' hb => by
  injection hb with hb
  subst hb
  exact ⟨_, _, h⟩
theorem Own.keptTyI {row : Option Nat} {t : TypeId} (h : Own cells size base e w v l) (hr : RowTyI w row t) (hne : e ≠ t) (hg : w.grownBy w' row) : Own cells size base e w' v l :=
  h.kept hg fun b hb hv => by
    obtain ⟨cs, fr, h1⟩ := hr b hb
    obtain ⟨cs', fr', h2⟩ := h.rowTyI b hv
    rw [h1] at h2
    injection h2 with h2
    injection h2 with _ h2 _
    exact hne h2.symm
theorem Own.base0 (h : Own cells size base e w v l) {base' : Nat} (hb : base' ≤ base) : Own cells size base' e w v l := by
  refine ⟨h.1, ?_⟩
  rcases h.2 with h1 | ⟨g, cap, cur, h1, h2, h3⟩
  · exact Or.inl h1
  · exact Or.inr ⟨g, cap, cur, h1, Nat.le_trans hb h2, h3⟩
end

/-! ### Raw rows: the datum and where its slices lie -/
abbrev RS := Sg × Option Addr × Nat
def cellsRS (r : RS) : List Value := [.string r.1.name, .bool r.1.static, .slice r.2.1 r.1.params.length r.2.2, .string r.1.result]
theorem cellsRS_ok : CellsOk cellsRS 4 := ⟨fun _ => rfl, fun _ u hu => by simp [cellsRS] at hu; rcases hu with rfl | rfl | rfl | rfl <;> rfl⟩
abbrev RI := Ins × Option Addr × Nat
def cellsRI (r : RI) : List Value := [.int .i64 r.1.op, .int .i64 r.1.dst, .int .i64 r.1.a, .int .i64 r.1.b, .int .i64 r.1.n, .string r.1.cls, .string r.1.name, .slice r.2.1 r.1.args.length r.2.2, .int .i64 r.1.jmp, .int .i64 r.1.hnd]
theorem cellsRI_ok : CellsOk cellsRI 10 := ⟨fun _ => rfl, fun _ u hu => by simp [cellsRI] at hu; rcases hu with rfl | rfl | rfl | rfl | rfl | rfl | rfl | rfl | rfl | rfl <;> rfl⟩
abbrev RC := Cls × (Option Addr × Nat) × Option Addr × Nat
def cellsRC (r : RC) : List Value := [.string r.1.name, .string r.1.super, .slice r.2.1.1 r.1.fields.length r.2.1.2, .slice r.2.2.1 r.1.methods.length r.2.2.2]
theorem cellsRC_ok : CellsOk cellsRC 4 := ⟨fun _ => rfl, fun _ u hu => by simp [cellsRC] at hu; rcases hu with rfl | rfl | rfl | rfl <;> rfl⟩
abbrev RFn := Fun × (Option Addr × Nat) × Option Addr × Nat
def cellsRF (r : RFn) : List Value := [.string r.1.cls, .string r.1.name, .bool r.1.static, .int .i64 r.1.nparams, .slice r.2.1.1 r.1.vars.length r.2.1.2, .string r.1.result, .slice r.2.2.1 r.1.code.length r.2.2.2]
theorem cellsRF_ok : CellsOk cellsRF 7 := ⟨fun _ => rfl, fun _ u hu => by simp [cellsRF] at hu; rcases hu with rfl | rfl | rfl | rfl | rfl | rfl | rfl <;> rfl⟩
theorem fldsTyI : ElemTy Tryz.prog 40 66 2 32 (.agg #[.string ByteArray.empty, .string ByteArray.empty]) := ⟨Tryz.underlying40, by kernel_rfl, rfl, by omega⟩
theorem sgsTyI : ElemTy Tryz.prog 62 68 4 64 (.agg #[.string ByteArray.empty, .bool false, .slice none 0 0, .string ByteArray.empty]) := ⟨Tryz.underlying62, by kernel_rfl, rfl, by omega⟩
theorem clssTyI : ElemTy Tryz.prog 22 64 4 80 (.agg #[.string ByteArray.empty, .string ByteArray.empty, .slice none 0 0, .slice none 0 0]) := ⟨Tryz.underlying22, by kernel_rfl, rfl, by omega⟩
theorem inssTyI : ElemTy Tryz.prog 41 47 10 112 (.agg #[.int .i64 0, .int .i64 0, .int .i64 0, .int .i64 0, .int .i64 0, .string ByteArray.empty, .string ByteArray.empty, .slice none 0 0, .int .i64 0, .int .i64 0]) := ⟨Tryz.underlying41, by kernel_rfl, rfl, by omega⟩
theorem funsTyI : ElemTy Tryz.prog 25 43 7 112 (.agg #[.string ByteArray.empty, .string ByteArray.empty, .bool false, .int .i64 0, .slice none 0 0, .string ByteArray.empty, .slice none 0 0]) := ⟨Tryz.underlying25, by kernel_rfl, rfl, by omega⟩

section
variable {w w' : World} {m m' : Nat}
def SgI (w : World) (r : RS) : Prop := Own cellsStr 1 0 9 w (.slice r.2.1 r.1.params.length r.2.2) r.1.params
def InI (w : World) (r : RI) : Prop := Own cellsInt 1 0 3 w (.slice r.2.1 r.1.args.length r.2.2) r.1.args
/-- A class whose slices lie in blocks from lo on. -/
structure ClsI (w : World) (lo : Nat) (r : RC) : Prop where
  flds : Own cellsFld 2 lo 66 w (.slice r.2.1.1 r.1.fields.length r.2.1.2) r.1.fields
  mths : ∃ rs : List RS, Own cellsRS 4 lo 68 w (.slice r.2.2.1 r.1.methods.length r.2.2.2) rs ∧ rs.map (·.1) = r.1.methods ∧ ∀ x ∈ rs, SgI w x
structure FunI (w : World) (lo : Nat) (r : RFn) : Prop where
  vars : Own cellsFld 2 lo 66 w (.slice r.2.1.1 r.1.vars.length r.2.1.2) r.1.vars
  code : ∃ rs : List RI, Own cellsRI 10 lo 47 w (.slice r.2.2.1 r.1.code.length r.2.2.2) rs ∧ rs.map (·.1) = r.1.code ∧ ∀ x ∈ rs, InI w x
structure DoneC (w : World) (m : Nat) (r : RC) : Prop where
  is : ClsI w 0 r
  l1 : ∀ k, (Value.slice r.2.1.1 r.1.fields.length r.2.1.2).ownBlock = some k → k < m
  l2 : ∀ k, (Value.slice r.2.2.1 r.1.methods.length r.2.2.2).ownBlock = some k → k < m
structure DoneF (w : World) (m : Nat) (r : RFn) : Prop where
  is : FunI w 0 r
  l1 : ∀ k, (Value.slice r.2.1.1 r.1.vars.length r.2.1.2).ownBlock = some k → k < m
  l2 : ∀ k, (Value.slice r.2.2.1 r.1.code.length r.2.2.2).ownBlock = some k → k < m
theorem SgI.mono {r : RS} (h : SgI w r) (hb : Below w.heap.size w w') : SgI w' r := Own.mono h hb
theorem InI.mono {r : RI} (h : InI w r) (hb : Below w.heap.size w w') : InI w' r := Own.mono h hb
theorem ClsI.mono {r : RC} (h : ClsI w m r) (hb : Below w.heap.size w w') : ClsI w' m r := by
  obtain ⟨rs, h1, h2, h3⟩ := h.mths
  exact ⟨h.flds.mono hb, rs, h1.mono hb, h2, fun x hx => (h3 x hx).mono hb⟩
theorem FunI.mono {r : RFn} (h : FunI w m r) (hb : Below w.heap.size w w') : FunI w' m r := by
  obtain ⟨rs, h1, h2, h3⟩ := h.code
  exact ⟨h.vars.mono hb, rs, h1.mono hb, h2, fun x hx => (h3 x hx).mono hb⟩
theorem DoneC.mono {r : RC} (h : DoneC w m r) (hb : Below w.heap.size w w') : DoneC w' m r := ⟨h.is.mono hb, h.l1, h.l2⟩
theorem DoneF.mono {r : RFn} (h : DoneF w m r) (hb : Below w.heap.size w w') : DoneF w' m r := ⟨h.is.mono hb, h.l1, h.l2⟩
theorem DoneC.more {r : RC} (h : DoneC w m r) (hm : m ≤ m') : DoneC w m' r := ⟨h.is, fun k hk => Nat.lt_of_lt_of_le (h.l1 k hk) hm, fun k hk => Nat.lt_of_lt_of_le (h.l2 k hk) hm⟩
theorem DoneF.more {r : RFn} (h : DoneF w m r) (hm : m ≤ m') : DoneF w m' r := ⟨h.is, fun k hk => Nat.lt_of_lt_of_le (h.l1 k hk) hm, fun k hk => Nat.lt_of_lt_of_le (h.l2 k hk) hm⟩
/-- What was under way is done. -/
theorem ClsI.done {r : RC} (h : ClsI w m r) : DoneC w w.heap.size r := by
  obtain ⟨rs, h1, h2, h3⟩ := h.mths
  exact ⟨⟨h.flds.base0 (Nat.zero_le _), rs, h1.base0 (Nat.zero_le _), h2, h3⟩, fun k hk => (World.ownsRow.lt h.flds k hk).2, fun k hk => (World.ownsRow.lt h1 k hk).2⟩
theorem FunI.done {r : RFn} (h : FunI w m r) : DoneF w w.heap.size r := by
  obtain ⟨rs, h1, h2, h3⟩ := h.code
  exact ⟨⟨h.vars.base0 (Nat.zero_le _), rs, h1.base0 (Nat.zero_le _), h2, h3⟩, fun k hk => (World.ownsRow.lt h.vars k hk).2, fun k hk => (World.ownsRow.lt h1 k hk).2⟩
/-- Steps that turn a row of another type. -/
theorem ClsI.kept {r : RC} {row : Option Nat} {t : TypeId} (h : ClsI w m r) (hr : RowTyI w row t) (h1 : 9 ≠ t) (h2 : 66 ≠ t) (h3 : 68 ≠ t) (hg : w.grownBy w' row) : ClsI w' m r := by
  obtain ⟨rs, k1, k2, k3⟩ := h.mths
  exact ⟨h.flds.keptTyI hr h2 hg, rs, k1.keptTyI hr h3 hg, k2, fun x hx => Own.keptTyI (k3 x hx) hr h1 hg⟩
theorem FunI.kept {r : RFn} {row : Option Nat} {t : TypeId} (h : FunI w m r) (hr : RowTyI w row t) (h1 : 3 ≠ t) (h2 : 66 ≠ t) (h3 : 47 ≠ t) (hg : w.grownBy w' row) : FunI w' m r := by
  obtain ⟨rs, k1, k2, k3⟩ := h.code
  exact ⟨h.vars.keptTyI hr h2 hg, rs, k1.keptTyI hr h3 hg, k2, fun x hx => Own.keptTyI (k3 x hx) hr h1 hg⟩
/-- What is done stays, whatever row from m on turns, if it holds no texts (no numbers). -/
theorem DoneC.kept {r : RC} {row : Option Nat} {t : TypeId} (h : DoneC w m r) (hr : RowTyI w row t) (h1 : 9 ≠ t) (h2 : (66 ≠ t ∧ 68 ≠ t) ∨ ∀ k, row = some k → m ≤ k) (hg : w.grownBy w' row) : DoneC w' m r := by
  refine ⟨?_, h.l1, h.l2⟩
  rcases h2 with ⟨h2, h3⟩ | h2
  · exact h.is.kept hr h1 h2 h3 hg
  · obtain ⟨rs, k1, k2, k3⟩ := h.is.mths
    exact ⟨h.is.flds.keptGe h.l1 h2 hg, rs, k1.keptGe h.l2 h2 hg, k2, fun x hx => Own.keptTyI (k3 x hx) hr h1 hg⟩
theorem DoneF.kept {r : RFn} {row : Option Nat} {t : TypeId} (h : DoneF w m r) (hr : RowTyI w row t) (h1 : 3 ≠ t) (h2 : (66 ≠ t ∧ 47 ≠ t) ∨ ∀ k, row = some k → m ≤ k) (hg : w.grownBy w' row) : DoneF w' m r := by
  refine ⟨?_, h.l1, h.l2⟩
  rcases h2 with ⟨h2, h3⟩ | h2
  · exact h.is.kept hr h1 h2 h3 hg
  · obtain ⟨rs, k1, k2, k3⟩ := h.is.code
    exact ⟨h.is.vars.keptGe h.l1 h2 hg, rs, k1.keptGe h.l2 h2 hg, k2, fun x hx => Own.keptTyI (k3 x hx) hr h1 hg⟩
end

/-! ### The reader -/
structure RdAt (w0 : World) (rb : Nat) (r : RdI) (m : Nat) (rc0 : List RC) (rf0 : List RFn) (oc : Option RC) (of : Option RFn) (vC vF : Value) (W : World) : Prop where
  bx : Box W rb [vC, vF, .int .i64 0, .int .i64 r.pl] 74
  rbw : w0.heap.size ≤ rb
  oC : Own cellsRC 4 w0.heap.size 64 W vC (rc0 ++ oc.toList)
  oF : Own cellsRF 7 w0.heap.size 43 W vF (rf0 ++ of.toList)
  eC : (rc0 ++ oc.toList).map (·.1) = r.cs
  eF : (rf0 ++ of.toList).map (·.1) = r.fs
  dC : ∀ x ∈ rc0, DoneC W m x
  dF : ∀ x ∈ rf0, DoneF W m x
  cC : ∀ x, oc = some x → ClsI W m x
  cF : ∀ x, of = some x → FunI W m x
  hm : w0.heap.size ≤ m ∧ m ≤ W.heap.size
  bw : Below w0.heap.size w0 W
section
variable {w0 W W' : World} {rb m : Nat} {r : RdI} {rc0 : List RC} {rf0 : List RFn} {oc : Option RC} {of : Option RFn} {vC vF : Value}
theorem RdAt.mono (h : RdAt w0 rb r m rc0 rf0 oc of vC vF W) (hb : Below W.heap.size W W') : RdAt w0 rb r m rc0 rf0 oc of vC vF W' :=
  ⟨h.bx.mono hb, h.rbw, h.oC.mono hb, h.oF.mono hb, h.eC, h.eF, fun x hx => (h.dC x hx).mono hb, fun x hx => (h.dF x hx).mono hb, fun x hx => (h.cC x hx).mono hb, fun x hx => (h.cF x hx).mono hb, ⟨h.hm.1, Nat.le_trans h.hm.2 hb.size⟩, below_step h.bw hb⟩
/-- All that was read is done. -/
theorem RdAt.freeze (h : RdAt w0 rb r m rc0 rf0 oc of vC vF W) : RdAt w0 rb r W.heap.size (rc0 ++ oc.toList) (rf0 ++ of.toList) none none vC vF W := by
  refine ⟨h.bx, h.rbw, by simpa using h.oC, by simpa using h.oF, by simpa using h.eC, by simpa using h.eF, fun x hx => ?_, fun x hx => ?_, fun x hx => (by cases hx), fun x hx => (by cases hx), ⟨h.bw.size, Nat.le_refl _⟩, h.bw⟩
  · rw [List.mem_append] at hx
    rcases hx with hx | hx
    · exact (h.dC x hx).more h.hm.2
    · rw [Option.mem_toList] at hx
      exact (h.cC x hx).done
  · rw [List.mem_append] at hx
    rcases hx with hx | hx
    · exact (h.dF x hx).more h.hm.2
    · rw [Option.mem_toList] at hx
      exact (h.cF x hx).done
/-- A store into the reader's box. -/
theorem RdAt.stored (h : RdAt w0 rb r m rc0 rf0 oc of vC vF W) {row : Option Nat} {vC' vF' : Value} {pl' : Nat} {cs' : List Cls} {fs' : List Fun} (hbx : Box W' rb [vC', vF', .int .i64 0, .int .i64 pl'] 74) (hg : W.grownBy W' (some rb)) (e1 : vC' = vC) (e2 : vF' = vF) (ec : cs' = r.cs) (ef : fs' = r.fs) : RdAt w0 rb ⟨cs', fs', pl'⟩ m rc0 rf0 oc of vC' vF' W' := by
  subst e1 e2 ec ef
  have hr := h.bx.rowTyI
  exact ⟨hbx, h.rbw, h.oC.keptTyI hr (by decide) hg, h.oF.keptTyI hr (by decide) hg, h.eC, h.eF, fun x hx => (h.dC x hx).kept hr (by decide) (Or.inl ⟨by decide, by decide⟩) hg, fun x hx => (h.dF x hx).kept hr (by decide) (Or.inl ⟨by decide, by decide⟩) hg,
    fun x hx => (h.cC x hx).kept hr (by decide) (by decide) (by decide) hg, fun x hx => (h.cF x hx).kept hr (by decide) (by decide) (by decide) hg, ⟨h.hm.1, Nat.le_trans h.hm.2 hg.size⟩, h.bw.grown hg h.bw.size fun k hk => by injection hk with hk; rw [← hk]; exact h.rbw⟩
theorem RdAt.place (h : RdAt w0 rb r m rc0 rf0 oc of vC vF W) (p : Nat) : RdAt w0 rb ⟨r.cs, r.fs, p⟩ m rc0 rf0 oc of vC vF (W.setCell ⟨rb, 3, none⟩ (.int .i64 p)) :=
  h.stored (row := none) (h.bx.set 3 (.int .i64 p)) (grown_set _ _ _ _) rfl rfl rfl rfl
end
end Go.Proofs.YticpeombillmeaaGreatDoor
