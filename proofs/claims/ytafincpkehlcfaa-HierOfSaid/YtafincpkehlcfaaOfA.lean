/-
  Chapter 10: hierarchies that a call makes, as raw rows; slices.Clone at []Field.
-/
import Derived.Test.YtafincpkehlcfaaNest
import Derived.Test.YtafincpkehlcfaaSrcTy
import Derived.Test.YtafincpkehlcfaaSortS
import Derived.Test.YtafincpkehlcfaaRegZ
import Derived.Lib.SliceRun
namespace Go.Proofs.Ytafincpkehlcfaa
open Go.RowKit
set_option linter.unusedVariables false

structure RSg where
  name : ByteArray
  static : Bool
  A : Option Addr
  n : Nat
  c : Nat
  result : ByteArray
def cellsRSg (x : RSg) : List Value := [.string x.name, .bool x.static, .slice x.A x.n x.c, .string x.result]
theorem cellsRSg_ok : CellsOk cellsRSg 4 := ⟨fun _ => rfl, fun _ u hu => by simp [cellsRSg] at hu; rcases hu with rfl | rfl | rfl | rfl <;> rfl⟩
structure RCls where
  name : ByteArray
  super : ByteArray
  A2 : Option Addr
  n2 : Nat
  c2 : Nat
  A3 : Option Addr
  n3 : Nat
  c3 : Nat
def cellsRCls (x : RCls) : List Value := [.string x.name, .string x.super, .slice x.A2 x.n2 x.c2, .slice x.A3 x.n3 x.c3]
theorem cellsRCls_ok : CellsOk cellsRCls 4 := ⟨fun _ => rfl, fun _ u hu => by simp [cellsRCls] at hu; rcases hu with rfl | rfl | rfl | rfl <;> rfl⟩

theorem fldsTy : ElemTy Try.prog 32 37 2 32 (.agg #[.string ByteArray.empty, .string ByteArray.empty]) := ⟨Try.underlying32, by kernel_rfl, rfl, by omega⟩
theorem sgsTy : ElemTy Try.prog 33 40 4 64 (.agg #[.string ByteArray.empty, .bool false, .slice none 0 0, .string ByteArray.empty]) := ⟨Try.underlying33, by kernel_rfl, rfl, by omega⟩
theorem clssTy : ElemTy Try.prog 26 35 4 80 (.agg #[.string ByteArray.empty, .string ByteArray.empty, .slice none 0 0, .slice none 0 0]) := ⟨Try.underlying26, by kernel_rfl, rfl, by omega⟩

/-- Whatever block the row names is one of type t. -/
def RowTy (w : World) (row : Option Nat) (t : TypeId) : Prop := ∀ b, row = some b → ∃ cs fr, w.heap[b]? = some (.cells cs t fr)
section
variable {α : Type} {cells : α → List Value} {size base : Nat} {e : TypeId} {w w' : World} {v : Value} {l : List α}
theorem Own.rowTy (h : Own cells size base e w v l) : RowTy w v.ownBlock e := fun b hb => by
  rcases h.2 with ⟨rfl, _⟩ | ⟨g, cap, cur, rfl, _, hh, _⟩
  · simp [Value.ownBlock] at hb
  · have : g = b := by simpa [Value.ownBlock] using hb
    subst this
    exact ⟨_, _, hh⟩
theorem Box.rowTy {b : Nat} {cs : List Value} {t : TypeId} (h : Box w b cs t) : RowTy w (some b) t := fun b' hb => by
  injection hb with hb
  subst hb
  exact ⟨_, _, h⟩
theorem Own.keptTy {row : Option Nat} {t : TypeId} (h : Own cells size base e w v l) (hr : RowTy w row t) (hne : e ≠ t) (hg : w.grownBy w' row) : Own cells size base e w' v l :=
  h.kept hg fun b hb hv => by
    obtain ⟨cs, fr, h1⟩ := hr b hb
    obtain ⟨cs', fr', h2⟩ := h.rowTy b hv
    rw [h1] at h2
    injection h2 with h2
    injection h2 with _ h2 _
    exact hne h2.symm
theorem Own.base_le {base' : Nat} (h : Own cells size base e w v l) (hb : base' ≤ base) : Own cells size base' e w v l := by
  refine ⟨h.1, ?_⟩
  rcases h.2 with h1 | ⟨g, cap, cur, h1, h2, h3⟩
  · exact Or.inl h1
  · exact Or.inr ⟨g, cap, cur, h1, Nat.le_trans hb h2, h3⟩
end

structure SgAt (w : World) (base : Nat) (r : RSg) (s : Sg) : Prop where
  name : r.name = s.name
  static : r.static = s.static
  result : r.result = s.result
  params : Own cellsStr 1 base 9 w (.slice r.A r.n r.c) s.params
structure SgsAt (w : World) (base : Nat) (rs : List RSg) (ss : List Sg) : Prop where
  len : rs.length = ss.length
  each : ∀ (i : Nat) r s, rs[i]? = some r → ss[i]? = some s → SgAt w base r s
structure ClsAt (w : World) (base : Nat) (r : RCls) (s : Cls) : Prop where
  name : r.name = s.name
  super : r.super = s.super
  fields : Own cellsFld 2 base 37 w (.slice r.A2 r.n2 r.c2) s.fields
  methods : ∃ rs, Own cellsRSg 4 base 40 w (.slice r.A3 r.n3 r.c3) rs ∧ SgsAt w base rs s.methods
structure ClssAt (w : World) (base : Nat) (rs : List RCls) (ss : List Cls) : Prop where
  len : rs.length = ss.length
  each : ∀ (i : Nat) r s, rs[i]? = some r → ss[i]? = some s → ClsAt w base r s

theorem pair_snoc {α β : Type} {R : α → β → Prop} {a : List α} {b : List β} {x : α} {y : β} (hl : a.length = b.length) (h : ∀ (i : Nat) r s, a[i]? = some r → b[i]? = some s → R r s) (hx : R x y) : ∀ (i : Nat) r s, (a ++ [x])[i]? = some r → (b ++ [y])[i]? = some s → R r s := by
  intro i r s h1 h2
  rcases Nat.lt_or_ge i a.length with hi | hi
  · rw [List.getElem?_append_left hi] at h1
    rw [List.getElem?_append_left (by omega)] at h2
    exact h i r s h1 h2
  · have h3 := (List.getElem?_eq_some_iff.1 h1).1
    have : i = a.length := by simp at h3; omega
    subst this
    rw [List.getElem?_append_right (Nat.le_refl _), Nat.sub_self] at h1
    rw [List.getElem?_append_right (by omega), hl, Nat.sub_self] at h2
    simp at h1 h2
    subst h1 h2
    exact hx

section
variable {w w' : World} {base base' : Nat}
theorem SgAt.mono {r : RSg} {s : Sg} (h : SgAt w base r s) (hb : Below w.heap.size w w') : SgAt w' base r s := ⟨h.name, h.static, h.result, h.params.mono hb⟩
theorem SgAt.base_le {r : RSg} {s : Sg} (h : SgAt w base r s) (hb : base' ≤ base) : SgAt w base' r s := ⟨h.name, h.static, h.result, h.params.base_le hb⟩
theorem SgAt.keptTy {row : Option Nat} {t : TypeId} {r : RSg} {s : Sg} (h : SgAt w base r s) (hr : RowTy w row t) (hne : 9 ≠ t) (hg : w.grownBy w' row) : SgAt w' base r s := ⟨h.name, h.static, h.result, h.params.keptTy hr hne hg⟩
theorem SgsAt.nil : SgsAt w base [] [] := ⟨rfl, fun i r s h => by simp at h⟩
theorem SgsAt.mono {rs : List RSg} {ss : List Sg} (h : SgsAt w base rs ss) (hb : Below w.heap.size w w') : SgsAt w' base rs ss := ⟨h.len, fun i r s h1 h2 => (h.each i r s h1 h2).mono hb⟩
theorem SgsAt.base_le {rs : List RSg} {ss : List Sg} (h : SgsAt w base rs ss) (hb : base' ≤ base) : SgsAt w base' rs ss := ⟨h.len, fun i r s h1 h2 => (h.each i r s h1 h2).base_le hb⟩
theorem SgsAt.keptTy {row : Option Nat} {t : TypeId} {rs : List RSg} {ss : List Sg} (h : SgsAt w base rs ss) (hr : RowTy w row t) (hne : 9 ≠ t) (hg : w.grownBy w' row) : SgsAt w' base rs ss := ⟨h.len, fun i r s h1 h2 => (h.each i r s h1 h2).keptTy hr hne hg⟩
theorem SgsAt.snoc {rs : List RSg} {ss : List Sg} {r : RSg} {s : Sg} (h : SgsAt w base rs ss) (h1 : SgAt w base r s) : SgsAt w base (rs ++ [r]) (ss ++ [s]) := ⟨by simp [h.len], pair_snoc h.len h.each h1⟩
theorem ClsAt.mono {r : RCls} {s : Cls} (h : ClsAt w base r s) (hb : Below w.heap.size w w') : ClsAt w' base r s := by
  obtain ⟨rs, h1, h2⟩ := h.methods
  exact ⟨h.name, h.super, h.fields.mono hb, rs, h1.mono hb, h2.mono hb⟩
theorem ClsAt.base_le {r : RCls} {s : Cls} (h : ClsAt w base r s) (hb : base' ≤ base) : ClsAt w base' r s := by
  obtain ⟨rs, h1, h2⟩ := h.methods
  exact ⟨h.name, h.super, h.fields.base_le hb, rs, h1.base_le hb, h2.base_le hb⟩
theorem ClsAt.keptTy {row : Option Nat} {t : TypeId} {r : RCls} {s : Cls} (h : ClsAt w base r s) (hr : RowTy w row t) (hne : 9 ≠ t) (hne2 : 37 ≠ t) (hne3 : 40 ≠ t) (hg : w.grownBy w' row) : ClsAt w' base r s := by
  obtain ⟨rs, h1, h2⟩ := h.methods
  exact ⟨h.name, h.super, h.fields.keptTy hr hne2 hg, rs, h1.keptTy hr hne3 hg, h2.keptTy hr hne hg⟩
theorem ClssAt.nil : ClssAt w base [] [] := ⟨rfl, fun i r s h => by simp at h⟩
theorem ClssAt.mono {rs : List RCls} {ss : List Cls} (h : ClssAt w base rs ss) (hb : Below w.heap.size w w') : ClssAt w' base rs ss := ⟨h.len, fun i r s h1 h2 => (h.each i r s h1 h2).mono hb⟩
theorem ClssAt.keptTy {row : Option Nat} {t : TypeId} {rs : List RCls} {ss : List Cls} (h : ClssAt w base rs ss) (hr : RowTy w row t) (hne : 9 ≠ t) (hne2 : 37 ≠ t) (hne3 : 40 ≠ t) (hg : w.grownBy w' row) : ClssAt w' base rs ss := ⟨h.len, fun i r s h1 h2 => (h.each i r s h1 h2).keptTy hr hne hne2 hne3 hg⟩
theorem ClssAt.snoc {rs : List RCls} {ss : List Cls} {r : RCls} {s : Cls} (h : ClssAt w base rs ss) (h1 : ClsAt w base r s) : ClssAt w base (rs ++ [r]) (ss ++ [s]) := ⟨by simp [h.len], pair_snoc h.len h.each h1⟩

theorem SgAt.rep {r : RSg} {s : Sg} (h : SgAt w base r s) : Lay.sg.rep w s (cellsRSg r) := by
  obtain ⟨A, c, hv, hc, hs⟩ := h.params.sl (L := Lay.str) rfl (fun x => rfl)
  injection hv with h1 h2 h3
  refine ⟨A, c, ?_, hc, hs⟩
  unfold cellsRSg
  rw [h.name, h.static, h.result, h1, h2, h3]
theorem ClsAt.rep {r : RCls} {s : Cls} (h : ClsAt w base r s) : Lay.cls.rep w s (cellsRCls r) := by
  obtain ⟨A, c, hv, hc, hs⟩ := h.fields.sl (L := Lay.fld) rfl (fun x => rfl)
  obtain ⟨rs, hm, hms⟩ := h.methods
  obtain ⟨A', c', hv', hc', hs'⟩ := hm.slR (M := Lay.sg) cellsRSg_ok rfl hms.len (fun i x y hx hy => (hms.each i x y hx hy).rep)
  injection hv with h1 h2 h3
  injection hv' with h1' h2' h3'
  refine ⟨A, c, A', c', ?_, hc, hs, hc', hs'⟩
  unfold cellsRCls
  rw [h.name, h.super, h1, h2, h3, h1', h2', h3']
theorem ClssAt.sl {e : TypeId} {v : Value} {rs : List RCls} {ss : List Cls} (h : ClssAt w base rs ss) (ho : Own cellsRCls 4 base e w v rs) : ∃ A c, v = .slice A ss.length c ∧ ss.length ≤ c ∧ Sl Lay.cls w A ss :=
  ho.slR (M := Lay.cls) cellsRCls_ok rfl h.len (fun i x y hx hy => (h.each i x y hx hy).rep)
end

def ofM (m : Mth) : Sg := ⟨m.name, m.static, m.params.map (·.typ), m.result⟩
def ofC (c : SCls) : Cls := ⟨c.name, c.super, c.fields, c.methods.map ofM⟩

set_option maxRecDepth 100000 in
theorem cloneFld_any (A : Option Addr) (c : Nat) (l : List Fld) (w : World) (hl : l.length * 32 ≤ 140737488355328) (hs : Sl Lay.fld w A l) :
    Calls Try.prog 9 #[.slice A l.length c] w fun e w' => (∃ v, e = .returned v ∧ Own cellsFld 2 w.heap.size 37 w' v l) ∧ Below w.heap.size w w' := by
  have q22 : ∀ (w : World) (a : Option Addr) (n c n' c' : Nat), (binOp .eql 32 (.slice a n c) (.slice none n' c')).run Try.prog w = .ok (.bool a.isNone) w := fun w a n c n' c' => Lib.run_eql_slice_nil w _ _ a n c n' c' Try.underlying32
  cases A with
  | none =>
    obtain rfl := hs.none_nil
    go_enter Try.func9, Try.ntmps9
    go_wp2_with fail
    go_ret
    exact ⟨⟨_, rfl, Own.nil⟩, Below.refl _ _⟩
  | some ad =>
    have ho : Own cellsFld 2 w.heap.size 37 (w.alloc (.cells #[] 37)) (.slice (some ⟨w.heap.size, 0, none⟩) 0 0) ([] : List Fld) := Own.lit w #[] [] (Nat.le_refl _) (by decide) rfl rfl
    obtain ⟨v', w', hrun, ho', hb', hg', hsz'⟩ := run_pushAll (L := Lay.fld) fldsTy cellsFld_ok 32 ho (c := c) (fun x vs h => h) rfl (hs.mono (bw_alloc (Below.refl _ _))) (by unfold maxLen; simp; omega) (by simp; omega) (by simp)
    go_enter Try.func9, Try.ntmps9
    go_wp2_with (at_builtin; refine wpList_appendRun rfl (.tmp 5) (.tmp 6) 32 rfl rfl rfl hrun ?_)
    go_ret
    exact ⟨⟨_, rfl, ho'⟩, (bw_alloc (Below.refl _ _)).trans hb'⟩
end Go.Proofs.Ytafincpkehlcfaa
