/-
  Chapter 13: what a text bounds (plain): the reader's state and the unit behind complete.
  Chapter 13: ir.Parse, exact: lines, words, the reader's line, complete, the check.
-/
import Derived.Test.YticpeombillmeaaGreatDoorJIrJ
import Derived.Test.YticpeombillmeaaGreatDoorJIv
namespace Go.Proofs.YticpeombillmeaaGreatDoor
open Go.RowKit
set_option linter.unusedVariables false

theorem joinTail_mem {sep : List UInt8} : ∀ {r : List (List UInt8)} {x : List UInt8}, x ∈ r → x.length ≤ (Lib.joinTail sep r).length := by
  intro r x hx
  rw [joinTail_flat]
  obtain ⟨a, b, rfl⟩ := List.append_of_mem hx
  simp only [List.flatMap_append, List.flatMap_cons, List.length_append]
  omega
theorem joinTail_cnt : ∀ r : List (List UInt8), r.length ≤ (Lib.joinTail [32] r).length := by
  intro r
  rw [joinTail_flat]
  induction r with
  | nil => exact Nat.le_refl _
  | cons a r ih => simp only [List.flatMap_cons, List.length_append, List.length_cons, List.length_nil]; omega
theorem lnT_mem {ws : List ByteArray} {x : ByteArray} (hx : x ∈ ws) : (toL x).length ≤ (lnT ws).length := by
  cases ws with
  | nil => cases hx
  | cons a r =>
    unfold lnT lineT
    rw [List.map_cons, Lib.join_cons, List.length_append, List.length_append]
    rcases List.mem_cons.1 hx with rfl | hx
    · omega
    · have := joinTail_mem (sep := [32]) (List.mem_map_of_mem (f := toL) hx)
      omega
theorem lnT_cnt (ws : List ByteArray) : ws.length ≤ (lnT ws).length := by
  cases ws with
  | nil => exact Nat.zero_le _
  | cons a r =>
    unfold lnT lineT
    rw [List.map_cons, Lib.join_cons, List.length_append, List.length_append]
    have := joinTail_cnt (r.map toL)
    rw [List.length_map] at this
    simp only [List.length_cons, List.length_nil]
    omega
theorem lnT_pos (ws : List ByteArray) : 1 ≤ (lnT ws).length := by
  unfold lnT lineT
  rw [List.length_append]
  simp
theorem flat_mem {α : Type} {f : α → List UInt8} {l : List α} {x : α} (hx : x ∈ l) : (f x).length ≤ (l.flatMap f).length := by
  obtain ⟨a, b, rfl⟩ := List.append_of_mem hx
  simp only [List.flatMap_append, List.flatMap_cons, List.length_append]
  omega
theorem flat_cnt {α : Type} {f : α → List UInt8} (h : ∀ x, 1 ≤ (f x).length) (l : List α) : l.length ≤ (l.flatMap f).length := by
  induction l with
  | nil => exact Nat.le_refl _
  | cons a r ih =>
    have := h a
    simp only [List.flatMap_cons, List.length_append, List.length_cons]
    omega
theorem clsT_pos (c : Cls) : 1 ≤ (clsT c).length := by
  unfold clsT
  have := lnT_pos (clsW c)
  simp only [List.length_append]
  omega
theorem funT_pos (f : Fun) : 1 ≤ (funT f).length := by
  unfold funT
  have := lnT_pos (funW f)
  simp only [List.length_append]
  omega
theorem toL_size (s : ByteArray) : (toL s).length = s.size := by unfold toL; rw [Array.length_toList]; rfl
/-- Bounds of a class by its text. -/
structure ClsB (n : Nat) (c : Cls) : Prop where
  nm : c.name.size ≤ n
  sp : c.super.size ≤ n
  fl : c.fields.length ≤ n
  ml : c.methods.length ≤ n
  fs : ∀ f ∈ c.fields, f.name.size ≤ n ∧ f.typ.size ≤ n
  ms : ∀ m ∈ c.methods, m.name.size ≤ n ∧ m.result.size ≤ n ∧ m.params.length ≤ n ∧ ∀ p ∈ m.params, p.size ≤ n
theorem clsB_of (c : Cls) : ClsB (clsT c).length c := by
  have e : (clsT c).length = (lnT (clsW c)).length + (c.fields.flatMap fldT).length + (c.methods.flatMap mthT).length := by unfold clsT; simp only [List.length_append]
  rw [e]
  refine ⟨?_, ?_, ?_, ?_, fun f hf => ?_, fun m hm => ?_⟩
  · have := lnT_mem (ws := clsW c) (x := c.name) (by unfold clsW; split <;> simp)
    rw [toL_size] at this
    omega
  · cases h : c.super.toList.isEmpty with
    | true =>
      have h1 : c.super.size = 0 := by
        rw [← toL_size]
        have h2 : c.super.toList = [] := by simpa using h
        rw [ByteArray.toList_eq] at h2
        unfold toL
        rw [h2]
        rfl
      omega
    | false =>
      have := lnT_mem (ws := clsW c) (x := c.super) (by unfold clsW; rw [h]; simp)
      rw [toL_size] at this
      omega
  · have := flat_cnt (f := fldT) (fun x => lnT_pos _) c.fields
    omega
  · have := flat_cnt (f := mthT) (fun x => lnT_pos _) c.methods
    omega
  · have h := flat_mem (f := fldT) hf
    have h1 := lnT_mem (ws := fldW f) (x := f.name) (by unfold fldW; simp)
    have h2 := lnT_mem (ws := fldW f) (x := f.typ) (by unfold fldW; simp)
    rw [toL_size] at h1 h2
    have e1 : (fldT f).length = (lnT (fldW f)).length := rfl
    omega
  · have h := flat_mem (f := mthT) hm
    have h1 := lnT_mem (ws := mthW m) (x := m.name) (by unfold mthW; simp)
    have h3 := lnT_cnt (mthW m)
    have h4 : m.params.length ≤ (mthW m).length := by unfold mthW; simp; omega
    have h2 : m.result.size ≤ (lnT (mthW m)).length := by
      cases he : m.result.toList.isEmpty with
      | true =>
        have h2 : m.result.toList = [] := by simpa using he
        have h1 : m.result.size = 0 := by
          rw [← toL_size]
          rw [ByteArray.toList_eq] at h2
          unfold toL
          rw [h2]
          rfl
        omega
      | false =>
        have := lnT_mem (ws := mthW m) (x := m.result) (by unfold mthW; rw [he]; simp)
        rw [toL_size] at this
        exact this
    rw [toL_size] at h1
    have e1 : (mthT m).length = (lnT (mthW m)).length := rfl
    refine ⟨by omega, by omega, by omega, fun p hp => ?_⟩
    have h5 := lnT_mem (ws := mthW m) (x := p) (by unfold mthW; exact List.mem_append_right _ hp)
    rw [toL_size] at h5
    omega
structure FunB (n : Nat) (f : Fun) : Prop where
  cl : f.cls.size ≤ n
  nm : f.name.size ≤ n
  vl : f.vars.length ≤ n
  kl : f.code.length ≤ n
  vs : ∀ v ∈ f.vars, v.name.size ≤ n ∧ v.typ.size ≤ n
theorem funB_of (f : Fun) : FunB (funT f).length f := by
  have e : (funT f).length = (lnT (funW f)).length + (f.vars.flatMap varT).length + (f.code.flatMap insTx).length := by unfold funT; simp only [List.length_append]
  rw [e]
  refine ⟨?_, ?_, ?_, ?_, fun v hv => ?_⟩
  · have := lnT_mem (ws := funW f) (x := f.cls) (by unfold funW; simp)
    rw [toL_size] at this
    omega
  · have := lnT_mem (ws := funW f) (x := f.name) (by unfold funW; simp)
    rw [toL_size] at this
    omega
  · have := flat_cnt (f := varT) (fun x => lnT_pos _) f.vars
    omega
  · have := flat_cnt (f := insTx) (fun x => lnT_pos _) f.code
    omega
  · have h := flat_mem (f := varT) hv
    have h1 := lnT_mem (ws := varW v) (x := v.name) (by unfold varW; simp)
    have h2 := lnT_mem (ws := varW v) (x := v.typ) (by unfold varW; simp)
    rw [toL_size] at h1 h2
    have e1 : (varT v).length = (lnT (varW v)).length := rfl
    omega
theorem ClsB.mono {n n' : Nat} {c : Cls} (h : ClsB n c) (hn : n ≤ n') : ClsB n' c :=
  ⟨Nat.le_trans h.nm hn, Nat.le_trans h.sp hn, Nat.le_trans h.fl hn, Nat.le_trans h.ml hn, fun f hf => ⟨Nat.le_trans (h.fs f hf).1 hn, Nat.le_trans (h.fs f hf).2 hn⟩, fun m hm => ⟨Nat.le_trans (h.ms m hm).1 hn, Nat.le_trans (h.ms m hm).2.1 hn, Nat.le_trans (h.ms m hm).2.2.1 hn, fun p hp => Nat.le_trans ((h.ms m hm).2.2.2 p hp) hn⟩⟩
theorem FunB.mono {n n' : Nat} {f : Fun} (h : FunB n f) (hn : n ≤ n') : FunB n' f :=
  ⟨Nat.le_trans h.cl hn, Nat.le_trans h.nm hn, Nat.le_trans h.vl hn, Nat.le_trans h.kl hn, fun v hv => ⟨Nat.le_trans (h.vs v hv).1 hn, Nat.le_trans (h.vs v hv).2 hn⟩⟩
/-- The state by its text. -/
structure RdB (n : Nat) (r : RdI) : Prop where
  cl : r.cs.length ≤ n
  fl : r.fs.length ≤ n
  cs : ∀ c ∈ r.cs, ClsB n c
  fs : ∀ f ∈ r.fs, FunB n f
theorem rdB_of (r : RdI) : RdB (txtR r).length r := by
  have e : (txtR r).length = (r.cs.flatMap clsT).length + (r.fs.flatMap funT).length := by unfold txtR; rw [List.length_append]
  have h1 := flat_cnt clsT_pos r.cs
  have h2 := flat_cnt funT_pos r.fs
  refine ⟨by omega, by omega, fun c hc => (clsB_of c).mono ?_, fun f hf => (funB_of f).mono ?_⟩
  · have := flat_mem (f := clsT) hc; omega
  · have := flat_mem (f := funT) hf; omega
theorem RdB.len {n : Nat} {r : RdI} (h : RdB n r) (hn : n ≤ 1000000) : LenB r :=
  ⟨Nat.le_trans h.cl hn, fun c hc => ⟨Nat.le_trans (h.cs c hc).fl hn, Nat.le_trans (h.cs c hc).ml hn⟩, Nat.le_trans h.fl hn, fun f hf => ⟨Nat.le_trans (h.fs f hf).vl hn, Nat.le_trans (h.fs f hf).kl hn⟩⟩

/-! ### Instructions that were read -/
def InsB (n : Nat) (x : Ins) : Prop := x.cls.size ≤ n ∧ x.args.length ≤ n
theorem setN_keep (x : Ins) (c : UInt8) (n : Int) : (setN x c n).cls = x.cls ∧ (setN x c n).args = x.args := by
  unfold setN
  split
  · exact ⟨rfl, rfl⟩
  split
  · exact ⟨rfl, rfl⟩
  split
  · exact ⟨rfl, rfl⟩
  split
  · exact ⟨rfl, rfl⟩
  split
  · exact ⟨rfl, rfl⟩
  · exact ⟨rfl, rfl⟩
theorem setF_insB {x y : Ins} {c : UInt8} {w : ByteArray} {n : Nat} (hx : InsB n x) (hw : w.size ≤ n) (h : setF x c w = some y) : InsB n y := by
  unfold setF at h
  split at h
  · injection h with h; rw [← h]; exact ⟨hw, hx.2⟩
  split at h
  · injection h with h; rw [← h]; exact hx
  split at h
  · obtain ⟨k, _, rfl⟩ := Option.map_eq_some_iff.1 h; exact hx
  · obtain ⟨k, _, rfl⟩ := Option.map_eq_some_iff.1 h
    obtain ⟨h1, h2⟩ := setN_keep x c k
    unfold InsB
    rw [h1, h2]
    exact hx
theorem setL_insB {n : Nat} : ∀ {f : List UInt8} {x y : Ins} {ws : List ByteArray}, InsB n x → (∀ w ∈ ws, w.size ≤ n) → setL x f ws = some y → InsB n y
  | [], x, y, ws, hx, hw, h => by
    unfold setL at h
    injection h with h
    rw [← h]; exact hx
  | c :: f, x, y, [], hx, hw, h => by cases h
  | c :: f, x, y, w :: r, hx, hw, h => by
    unfold setL at h
    split at h
    · rename_i z hz
      exact setL_insB (setF_insB hx (hw w List.mem_cons_self) hz) (fun v hv => hw v (List.mem_cons_of_mem _ hv)) h
    · cases h
theorem numsL_len : ∀ {ws : List ByteArray} {l : List Int}, numsL ws = some l → l.length = ws.length
  | [], l, h => by injection h with h; rw [← h]; rfl
  | w :: r, l, h => by
    unfold numsL at h
    split at h
    · cases h
    split at h
    · cases h
    · rename_i n _ l' h'
      injection h with h
      rw [← h, List.length_cons, List.length_cons, numsL_len h']
theorem insP_insB {n : Nat} {ws : List ByteArray} {x : Ins} (hw : ∀ w ∈ ws, w.size ≤ n) (hl : ws.length ≤ n) (h : insP ws = some x) : InsB n x := by
  unfold insP at h
  split at h
  · rename_i w0 w1 rest
    split at h
    · cases h
    split at h
    · cases h
    split at h
    · cases h
    split at h
    · cases h
    rename_i y hy
    split at h
    · cases h
    rename_i l hl2
    injection h with h
    have h1 := setL_insB (n := n) (show InsB n { zIns with op := _, hnd := _ } from ⟨Nat.zero_le _, Nat.zero_le _⟩) (fun v hv => hw v (List.mem_cons_of_mem _ (List.mem_cons_of_mem _ hv))) hy
    have h2 := numsL_len hl2
    rw [List.length_drop] at h2
    simp only [List.length_cons] at hl
    rw [← h]
    exact ⟨h1.1, by show l.length ≤ n; omega⟩
  · cases h
theorem modLast_mem {α : Type} {f : α → α} : ∀ {l : List α} {x : α}, x ∈ modLast f l → x ∈ l ∨ ∃ y ∈ l, x = f y
  | [], x, h => by cases h
  | [a], x, h => by
    have : x = f a := by simpa [modLast] using h
    exact Or.inr ⟨a, List.mem_cons_self, this⟩
  | a :: b :: r, x, h => by
    have h : x ∈ a :: modLast f (b :: r) := h
    rcases List.mem_cons.1 h with rfl | h
    · exact Or.inl List.mem_cons_self
    · rcases modLast_mem h with h | ⟨y, hy, e⟩
      · exact Or.inl (List.mem_cons_of_mem _ h)
      · exact Or.inr ⟨y, List.mem_cons_of_mem _ hy, e⟩
/-- All instructions that were read are small. -/
def InvI (n : Nat) (r : RdI) : Prop := ∀ f ∈ r.fs, f.result.size ≤ n ∧ ∀ x ∈ f.code, InsB n x
theorem InvI.line {n : Nat} {r r' : RdI} {ws : List ByteArray} (hI : InvI n r) (hw : ∀ w ∈ ws, w.size ≤ n) (hl : ws.length ≤ n) (h : lineP r ws = some r') : InvI n r' := by
  unfold lineP at h
  split at h
  · split at h
    · injection h with h; rw [← h]; exact hI
    · cases h
  split at h
  · split at h
    · injection h with h; rw [← h]; exact hI
    · cases h
  split at h
  · split at h
    · injection h with h; rw [← h]; exact hI
    · cases h
  split at h
  · split at h
    · injection h with h; rw [← h]
      intro f hf
      rcases List.mem_append.1 hf with hf | hf
      · exact hI f hf
      · obtain rfl := List.mem_singleton.1 hf
        exact ⟨Nat.zero_le _, fun x hx => by cases hx⟩
    · cases h
  split at h
  · split at h
    · injection h with h; rw [← h]
      intro f hf
      rcases modLast_mem hf with hf | ⟨y, hy, rfl⟩
      · exact hI f hf
      · exact hI y hy
    · cases h
  split at h
  · cases h
  rename_i x hx
  split at h
  · injection h with h; rw [← h]
    intro f hf
    rcases modLast_mem hf with hf | ⟨y, hy, rfl⟩
    · exact hI f hf
    · refine ⟨(hI y hy).1, fun z hz => ?_⟩
      rcases List.mem_append.1 hz with hz | hz
      · exact (hI y hy).2 z hz
      · obtain rfl := List.mem_singleton.1 hz
        exact insP_insB hw hl hx
  · cases h
theorem InvI.zero (n : Nat) : InvI n ⟨[], [], 0⟩ := fun f hf => by cases hf
/-- What the check of the unit leans on, out of a state that was read. -/
theorem unH_of {w : World} {r : RdI} {A0 A1 : Option Addr} {c0 : Nat} (hB : RdB 65536 r) (hI : InvI 65536 r) (hc : r.cs.length ≤ c0) (hs : Sl Lay.cls w A0 r.cs) (hf : Sl Lay.fun w A1 (r.fs.map (complF r.cs))) (hfx : FormX w) (hkw : KwX w) : UnH w (complU r) A0 A1 c0 := by
  have hm : (65536 : Nat) ≤ maxLen := by decide
  refine ⟨Nat.le_trans hB.cl (by decide), hc, hs, fun x hx => ?_, fun x hx => ?_, hf, ?_, fun f hf => ?_, hfx, hkw⟩
  · have h := hB.cs x hx
    exact ⟨⟨Nat.le_trans h.nm hm, Nat.le_trans h.sp hm⟩, fun f hf => ⟨Nat.le_trans (h.fs f hf).1 hm, Nat.le_trans (h.fs f hf).2 hm⟩, fun m hm2 => ⟨Nat.le_trans (h.ms m hm2).1 hm, Nat.le_trans (h.ms m hm2).2.1 hm, fun p hp => Nat.le_trans ((h.ms m hm2).2.2.2 p hp) hm⟩⟩
  · have h := hB.cs x hx
    exact ⟨Nat.le_trans h.fl (by decide), Nat.le_trans h.ml (by decide), fun y hy => Nat.le_trans (h.ms y hy).2.2.1 (by decide)⟩
  · show (r.fs.map (complF r.cs)).length ≤ _
    rw [List.length_map]
    exact Nat.le_trans hB.fl (by decide)
  · obtain ⟨g, hg, rfl⟩ := List.mem_map.1 (show f ∈ r.fs.map (complF r.cs) from hf)
    have h := hB.fs g hg
    have hi := hI g hg
    have e1 : (complF r.cs g).vars = g.vars := by unfold complF; split <;> rfl
    have e2 : (complF r.cs g).code = g.code := by unfold complF; split <;> rfl
    refine ⟨?_, ?_, ?_, ?_, ?_⟩
    · rw [e1]; exact Nat.le_trans h.vl (by decide)
    · rw [e1]; exact fun v hv => ⟨Nat.le_trans (h.vs v hv).1 hm, Nat.le_trans (h.vs v hv).2 hm⟩
    · rw [e2]; exact Nat.le_trans h.kl (by decide)
    · rw [e2]; exact fun x hx => ⟨Nat.le_trans (hi.2 x hx).1 hm, Nat.le_trans (hi.2 x hx).2 (by decide)⟩
    · unfold complF
      split
      · exact Nat.le_trans hi.1 hm
      · rename_i m hmo
        obtain ⟨c, hc, hmc⟩ := methodOf_mem hmo
        exact Nat.le_trans ((hB.cs c hc).ms m hmc).2.1 hm
end Go.Proofs.YticpeombillmeaaGreatDoor
namespace Go.Proofs.YticpeombillmeaaGreatDoor
open Go.RowKit
set_option linter.unusedVariables false

/-- The reading of the text with the number of the line. -/
def parsE : Nat → Int → RdI → List UInt8 → Except Int RdI
  | 0, i, r, l => if l = [] then .ok r else .error i
  | k + 1, i, r, l => if l = [] then .ok r else match stepI r l with
    | none => .error i
    | some (r', l') => parsE k (i + 1) r' l'
theorem parsE_L : ∀ (k : Nat) (i : Int) (r : RdI) (l : List UInt8), parsL k r l = (match parsE k i r l with | .ok r' => some r' | .error _ => none)
  | 0, i, r, l => by
    unfold parsL parsE
    split <;> rfl
  | k + 1, i, r, l => by
    unfold parsL parsE
    split
    · rfl
    · cases stepI r l with
      | none => rfl
      | some p => exact parsE_L k (i + 1) p.1 p.2
theorem containsE {w : World} {g : Nat} (l : List ByteArray) (b : Bool) (hb : Hid (b = l.any fun x => x.toList == [])) (hl : l.length ≤ 9223372036854775807) (hs : Box w g (l.map Value.string) 9) :
    Calls Tryz.prog 26 #[.slice (some ⟨g, 0, none⟩) l.length l.length, .string ⟨#[]⟩] w fun e w' => e = .returned (.bool b) ∧ w' = w := by
  refine (Tryz.slices_Contains_string g 0 l.length l.length l ⟨#[]⟩ w (Nat.le_refl _) hl (fun j hj => ?_)).mono ?_
  · obtain ⟨b', o', e, _, hc⟩ := hs.strs.str_at hj
    injection e with e
    injection e with e1 e2
    subst e1 e2
    rw [hc]
    simp [List.getD, hj]
  · rintro e w' ⟨rfl, rfl⟩
    refine ⟨?_, rfl⟩
    congr 2
    rw [hb.out, Bool.eq_iff_iff, Lib.containsS_iff, List.take_length, List.any_eq_true]
    constructor
    · intro h; exact ⟨_, h, by rw [ByteArray.toList_eq]; rfl⟩
    · rintro ⟨x, hx, h⟩
      have h : x.toList = [] := by simpa using h
      have : x = ⟨#[]⟩ := by
        rw [ByteArray.toList_eq] at h
        apply toL_inj
        exact h
      rw [← this]; exact hx
theorem RdSome.zero {w0 W : World} {rb : Nat} (hb : Box W rb [.slice none 0 0, .slice none 0 0, .int .i64 0, .int .i64 0] 74) (h0 : w0.heap.size ≤ rb) (hw : Below w0.heap.size w0 W) : RdSome w0 rb ⟨[], [], 0⟩ W :=
  ⟨W.heap.size, [], [], none, none, _, _, ⟨hb, h0, Own.nil, Own.nil, rfl, rfl, fun x hx => by (cases hx), fun x hx => by (cases hx), fun x hx => by (cases hx), fun x hx => by (cases hx), ⟨hw.size, Nat.le_refl _⟩, hw⟩, fun _ => ⟨rfl, rfl⟩, fun h => by simp at h, fun h => by simp at h⟩
/-- What Parse returns. -/
def RetPs (s : ByteArray) (e : Ending) (w' : World) : Prop :=
  if 65536 < s.size then e = .returned (.tuple #[.agg #[.slice none 0 0, .slice none 0 0, .int .i64 0], .int .i64 0, .int .i64 3]) else
  match parsE s.size 1 ⟨[], [], 0⟩ (toL s) with
  | .error i => e = .returned (.tuple #[.agg #[.slice none 0 0, .slice none 0 0, .int .i64 0], .int .i64 i, .int .i64 2])
  | .ok r => if (chkE (complU r)).2.2 = 0 then ∃ AC cC AF cF, e = .returned (.tuple #[.agg #[.slice AC r.cs.length cC, .slice AF r.fs.length cF, .int .i64 (complU r).main], .int .i64 0, .int .i64 0]) ∧ r.cs.length ≤ cC ∧ Sl Lay.cls w' AC r.cs ∧ r.fs.length ≤ cF ∧ Sl Lay.fun w' AF (complU r).funcs
    else e = .returned (.tuple #[.agg #[.slice none 0 0, .slice none 0 0, .int .i64 0], .int .i64 0, .int .i64 (chkE (complU r)).2.2])
/-- The state of the loop: what was read, what is left. -/
structure PsAt (s : ByteArray) (WU : World) (rb k : Nat) (r : RdI) (x : ByteArray) (wr : World) : Prop where
  rd : RdSome WU rb r wr
  ok : RdOk r
  tx : txtR r ++ toL x = toL s
  iv : InvI 65536 r
  eq : parsE s.size 1 ⟨[], [], 0⟩ (toL s) = parsE (s.size - k) ((k : Int) + 1) r (toL x)
  kl : k + (toL x).length ≤ s.size
theorem PsAt.bad {s : ByteArray} {WU wr : World} {rb k : Nat} {r : RdI} {x : ByteArray} (h : PsAt s WU rb k r x wr) (hne : toL x ≠ []) (hst : stepI r (toL x) = none) : parsE s.size 1 ⟨[], [], 0⟩ (toL s) = .error ((k : Int) + 1) := by
  have hp : 0 < (toL x).length := List.length_pos_iff.2 hne
  have := h.kl
  rw [h.eq, show s.size - k = (s.size - (k + 1)) + 1 by omega, parsE, if_neg hne, hst]
theorem PsAt.done {s : ByteArray} {WU wr : World} {rb k : Nat} {r : RdI} {x : ByteArray} (h : PsAt s WU rb k r x wr) (hne : toL x = []) : parsE s.size 1 ⟨[], [], 0⟩ (toL s) = .ok r := by
  rw [h.eq]
  cases s.size - k with
  | zero => rw [parsE, if_pos hne]
  | succ n => rw [parsE, if_pos hne]
theorem PsAt.next {s : ByteArray} {WU wr w' : World} {rb k : Nat} {r r' : RdI} {x : ByteArray} {l' : List UInt8} (h : PsAt s WU rb k r x wr) (hs : s.size ≤ 65536) (hne : toL x ≠ []) (hst : stepI r (toL x) = some (r', l')) (hrd : RdSome WU rb r' w') : PsAt s WU rb (k + 1) r' (bsOf l') w' ∧ l'.length < (toL x).length := by
  have hp : 0 < (toL x).length := List.length_pos_iff.2 hne
  have hk := h.kl
  obtain ⟨ws, h1, h2, h3, h4⟩ := stepI_back hst
  obtain ⟨h5, h6⟩ := lineP_txt h.ok h2 h3
  have hlen : (toL x).length = (lnT ws).length + l'.length := by rw [h4, List.length_append]
  have hpos := lnT_pos ws
  refine ⟨⟨hrd, h5, ?_, h.iv.line (fun w hw => ?_) ?_ h3, ?_, ?_⟩, by omega⟩
  · rw [toL_bsOf, h6, List.append_assoc, ← h4]; exact h.tx
  · have := lnT_mem hw
    rw [toL_size] at this
    omega
  · have := lnT_cnt ws
    omega
  · rw [h.eq, show s.size - k = (s.size - (k + 1)) + 1 by omega, parsE, if_neg hne, hst, toL_bsOf]
    show parsE _ ((k : Int) + 1 + 1) r' l' = _
    rw [show ((k + 1 : Nat) : Int) + 1 = (k : Int) + 1 + 1 by omega]
  · rw [toL_bsOf]; omega
theorem PsAt.lenB {s : ByteArray} {WU wr : World} {rb k : Nat} {r : RdI} {x : ByteArray} (h : PsAt s WU rb k r x wr) (hs : s.size ≤ 65536) : LenB r ∧ RdB 65536 r := by
  have hl : (txtR r).length ≤ 65536 := by
    have := congrArg List.length h.tx
    rw [List.length_append, toL_size, toL_size] at this
    omega
  have hb := rdB_of r
  have hb2 : RdB 65536 r := ⟨Nat.le_trans hb.cl hl, Nat.le_trans hb.fl hl, fun c hc => (hb.cs c hc).mono hl, fun f hf => (hb.fs f hf).mono hl⟩
  exact ⟨hb2.len (by decide), hb2⟩
theorem cut_le1 (l : List UInt8) : (Lib.cut l [10]).1.length ≤ l.length := by
  rcases spl_cases 10 l with ⟨h2, _⟩ | ⟨a, t, rfl, ha, _⟩
  · rw [cut_free h2]; exact Nat.le_refl _
  · rw [cut_mid ha]; simp only [List.length_append]; omega
theorem stepI_no1 {r : RdI} {l : List UInt8} {p : List UInt8 × List UInt8 × Bool} (hp : p = Lib.cut l [10]) (h : p.2.2 = false ∨ (wrdsL p.1).any (fun x => x.toList == []) = true ∨ lineP r (wrdsL p.1) = none) : stepI r l = none := by
  subst hp
  unfold stepI
  split
  · rfl
  · rename_i h1
    rcases h with h | h | h
    · exact absurd (Or.inl h) h1
    · exact absurd (Or.inr h) h1
    · rw [h]
theorem stepI_yes {r r' : RdI} {l : List UInt8} {p : List UInt8 × List UInt8 × Bool} (hp : p = Lib.cut l [10]) (h : p.2.2 = true) (h1 : (wrdsL p.1).any (fun x => x.toList == []) = false) (h2 : lineP r (wrdsL p.1) = some r') : stepI r l = some (r', p.2.1) := by
  subst hp
  unfold stepI
  rw [if_neg (by rw [h, h1]; simp), h2]
theorem RetPs.bad {s : ByteArray} {i : Int} {w' : World} (hs : ¬ (65536 : Int) < s.size) (h : parsE s.size 1 ⟨[], [], 0⟩ (toL s) = .error i) : RetPs s (.returned (.tuple #[.agg #[.slice none 0 0, .slice none 0 0, .int .i64 0], .int .i64 i, .int .i64 2])) w' := by
  unfold RetPs
  rw [if_neg (by omega), h]
def strOf : Value → ByteArray
  | .string x => x
  | _ => ByteArray.empty
set_option maxRecDepth 100000 in
set_option maxHeartbeats 1000000 in
theorem parse_any (s : ByteArray) (w : World) (hg : Gl3 w) : Calls Tryz.prog 7 #[.string s] w fun e w' => RetPs s e w' ∧ Below w.heap.size w w' := by
  have HRET : ∀ e w', RetPs s e w' → Below w.heap.size w w' → RetPs s e w' ∧ Below w.heap.size w w' := fun _ _ a b => ⟨a, b⟩
  cases hlen : (decide ((65536 : Int) < s.size)) with
  | true =>
    have hl : (65536 : Int) < s.size := by simpa using hlen
    have HR : Hid (∀ w', RetPs s (.returned (.tuple #[.agg #[.slice none 0 0, .slice none 0 0, .int .i64 0], .int .i64 0, .int .i64 3])) w') := fun w' => by
      unfold RetPs
      rw [if_pos (by omega)]
    go_enter Tryz.func7, Tryz.ntmps7
    go_wp2_with fail
    generalize hU : World.alloc _ _ = WU at *
    have hbU : Below w.heap.size w WU := by rw [← hU]; exact (by repeat (first | assumption | exact Below.refl _ _ | apply bw_alloc | apply bw_drew | apply bw_drewN | apply bw_later | apply bw_step))
    have bU : Box WU w.heap.size [.slice none 0 0, .slice none 0 0, .int .i64 0] 27 := by rw [← hU]; exact Box.at (by simp)
    clear hU
    have u0 := bU.cell 0 rfl
    have u1 := bU.cell 1 rfl
    have u2 := bU.cell 2 rfl
    refine bodyPost_ret (v := .tuple #[.agg #[.slice none 0 0, .slice none 0 0, .int .i64 0], .int .i64 0, .int .i64 3]) (by simp [results, Tryz.results7, go_sem, u0, u1, u2]) rfl ⟨HR.out _, hbU⟩
  | false =>
    have hl : ¬ (65536 : Int) < s.size := by simpa using hlen
    have hsz : s.size ≤ 2000000 := by omega
    go_enter Tryz.func7, Tryz.ntmps7
    go_upto_region 4 with fail
    have hbU : Below w.heap.size w (w.alloc (.cells #[.slice none 0 0, .slice none 0 0, .int .i64 0] 27)) := (by repeat (first | assumption | exact Below.refl _ _ | apply bw_alloc | apply bw_drew | apply bw_drewN | apply bw_later | apply bw_step))
    have bU : Box (w.alloc (.cells #[.slice none 0 0, .slice none 0 0, .int .i64 0] 27)) w.heap.size [.slice none 0 0, .slice none 0 0, .int .i64 0] 27 := Box.at (by simp)
    have hsU : (w.alloc (.cells #[.slice none 0 0, .slice none 0 0, .int .i64 0] 27)).heap.size = w.heap.size + 1 := by simp
    generalize hU : World.alloc w _ = WU at *
    clear hU
    have bR : Box (WU.alloc (.cells #[.slice none 0 0, .slice none 0 0, .int .i64 0, .int .i64 0] 74)) WU.heap.size [.slice none 0 0, .slice none 0 0, .int .i64 0, .int .i64 0] 74 := Box.at (by simp)
    have hbR : Below WU.heap.size WU (WU.alloc (.cells #[.slice none 0 0, .slice none 0 0, .int .i64 0, .int .i64 0] 74)) := (by repeat (first | assumption | exact Below.refl _ _ | apply bw_alloc | apply bw_drew | apply bw_drewN | apply bw_later | apply bw_step))
    generalize hR : World.alloc WU _ = WR at *
    clear hR
    rw [hsU] at bR
    have hgU := hg.mono hbU
    have hst : PsAt s WU (w.heap.size + 1) 0 ⟨[], [], 0⟩ s WR := ⟨RdSome.zero bR (by omega) hbR, rdOk_zero, rfl, InvI.zero _, rfl, by rw [toL_size]; omega⟩
    clear bR hbR hg
    obtain ⟨sx, hsx⟩ : ∃ sx : ByteArray, sx = s := ⟨_, rfl⟩
    go_wp2_with fail
    go_loopw [0, 6] (fun a i wr => ∃ (k : Nat) (r : RdI) (x : ByteArray), a = .string x ∧ i = .int .i64 ((k : Int) + 1) ∧ PsAt s WU (w.heap.size + 1) k r x wr) (fun a i _ => (strOf a).size)
    case atStart => exact ⟨0, _, _, rfl, rfl, hst⟩
    case round =>
      clear hst
      obtain ⟨k, r, x, rfl, rfl, hA⟩ := hrel
      cases e : x.toList.isEmpty with
      | true =>
        have hx0 : toL x = [] := by
          rw [ByteArray.toList_eq] at e
          unfold toL
          exact List.isEmpty_iff.1 e
        have HOK := Lib.hid (hA.done hx0)
        have hs6 : s.size ≤ 65536 := by omega
        obtain ⟨hLB, hRB⟩ := hA.lenB hs6
        have hPM : ∀ c ∈ r.cs, ∀ m ∈ c.methods, m.params.length ≤ 1000000 := fun c hc m hm => Nat.le_trans ((hRB.cs c hc).ms m hm).2.2.1 (by decide)
        have hIV := hA.iv
        have hgr := hgU.mono hA.rd.bel
        obtain ⟨m, rc0, rf0, oc, of, vC, vF, hR, -⟩ := hA.rd
        have HCP := Lib.hid (complete_any hR.freeze hLB hPM)
        clear hR hA hgr
        generalize hfs : r.fs.map (complF r.cs) = fs at *
        generalize hmn : findU fs (bsOf wMainC) (bsOf wMainM) = mn at *
        have hCU : complU r = ⟨r.cs, fs, mn⟩ := by unfold complU; rw [hfs, hmn]
        have HCU := Lib.hid hCU
        have HFS := Lib.hid hfs
        clear hfs hmn hCU
        go_upto_region 13 with fail
        with_reducible refine Calls.mono HCP.out ?_
        rintro e7 w7 ⟨he7, hU7⟩
        subst he7
        obtain ⟨⟨vC', vF', m', rcs', rfs', hV⟩, hb7⟩ := hU7
        go_upto_region 13 with fail
        obtain ⟨AC, cC, AF, cF, rfl, rfl, hc1, hs1, hc2, hs2⟩ := hV.sl
        have hg7 := hgU.mono hb7
        have HUN : Hid (UnH w7 ⟨r.cs, fs, mn⟩ AC AF cC) := by
          have h := unH_of hRB hIV hc1 hs1 (by rw [HFS.out]; exact hs2) hg7.fx hg7.kw
          rw [HCU.out] at h
          exact h
        obtain ⟨⟨q1, q2, q3⟩, HQ⟩ : ∃ q, Hid (q = chkE ⟨r.cs, fs, mn⟩) := ⟨_, Lib.hid rfl⟩
        have HCK : Hid (Calls Tryz.prog 13 #[.agg #[.slice AC r.cs.length cC, .slice AF fs.length cF, .int .i64 mn]] w7 fun e w' => e = .returned (.tuple #[.int .i64 q1, .int .i64 q2, .int .i64 q3]) ∧ Below w7.heap.size w7 w') := by
          have h := check_any ⟨r.cs, fs, mn⟩ AC AF cC cF w7 HUN
          rw [← HQ.out] at h
          exact Lib.hid h
        have v0 := hV.bx.cell 0 rfl
        have v1 := hV.bx.cell 1 rfl
        have v2 := hV.bx.cell 2 rfl
        have vl := hV.bx.lt
        go_upto_region 14 with (with_reducible refine Calls.mono HCK.out ?_; rintro _ w8 ⟨rfl, hb8⟩)
        clear v0 v1 v2 vl
        have hV8 := hV.mono hb8
        have hb78 := below_step hb7 hb8
        have bz := bU.mono hb78
        have HZ := Lib.hid (below_step hbU hb78)
        have z0 := bz.cell 0 rfl
        have z1 := bz.cell 1 rfl
        have z2 := bz.cell 2 rfl
        have zl := bz.lt
        have zf := fun i => bz.free i
        cases hq : (q3 == 0) with
        | false =>
          obtain ⟨bz9, hg9⟩ := bz.store3 (.slice none 0 0) (.slice none 0 0) (.int .i64 0)
          have hb9 := HZ.out.grown hg9 HZ.out.size (fun q hq => by injection hq with hq; omega)
          have HRT : Hid (∀ w', RetPs s (.returned (.tuple #[.agg #[.slice none 0 0, .slice none 0 0, .int .i64 0], .int .i64 0, .int .i64 q3])) w') := Lib.hid (fun w' => by
            unfold RetPs
            rw [if_neg (by omega), HOK.out]
            dsimp only
            rw [HCU.out, ← HQ.out, if_neg (by simpa using hq)])
          clear HCK HQ HUN HCP hV hV8 hg9
          go_wp2_with fail
          generalize World.setCell _ _ _ = w9 at *
          clear z0 z1 z2 zl zf
          have y0 := bz9.cell 0 rfl
          have y1 := bz9.cell 1 rfl
          have y2 := bz9.cell 2 rfl
          refine bodyPost_ret (v := .tuple #[.agg #[.slice none 0 0, .slice none 0 0, .int .i64 0], .int .i64 0, .int .i64 q3]) (by simp [results, Tryz.results7, go_sem, y0, y1, y2]) rfl ⟨HRT.out _, hb9⟩
        | true =>
          have hfl : fs.length = r.fs.length := by rw [← HFS.out, List.length_map]
          have HRT : Hid (∀ w', Sl Lay.cls w' AC r.cs → Sl Lay.fun w' AF fs → RetPs s (.returned (.tuple #[.agg #[.slice AC r.cs.length cC, .slice AF fs.length cF, .int .i64 mn], .int .i64 0, .int .i64 0])) w') := Lib.hid (fun w' k1 k2 => by
            unfold RetPs
            rw [if_neg (by omega), HOK.out]
            dsimp only
            rw [HCU.out, ← HQ.out, if_pos (by simpa using hq)]
            exact ⟨AC, cC, AF, cF, by rw [hfl], hc1, k1, by rw [← hfl]; exact hc2, k2⟩)
          obtain ⟨bz9, hg9⟩ := bz.store3 (.slice AC r.cs.length cC) (.slice AF fs.length cF) (.int .i64 mn)
          have hb9 := HZ.out.grown hg9 HZ.out.size (fun q hq => by injection hq with hq; omega)
          have hV9 := hV8.res bz.rowTyI (by omega) hg9
          obtain ⟨AC', cC', AF', cF', e1, e2, -, k2, -, k4⟩ := hV9.sl
          injection e1 with e1 _ e1c
          injection e2 with e2 _ e2c
          subst e1 e1c e2 e2c
          have v0 := hV8.bx.cell 0 rfl
          have v1 := hV8.bx.cell 1 rfl
          have v2 := hV8.bx.cell 2 rfl
          have vl := hV8.bx.lt
          have HFLen := Lib.hid hfl
          clear HCK HQ HUN HCP hV hV8 hg9 hV9 hfl
          go_wp2_with fail
          generalize World.setCell _ _ _ = w9 at *
          clear z0 z1 z2 zl zf
          have y0 := bz9.cell 0 rfl
          have y1 := bz9.cell 1 rfl
          have y2 := bz9.cell 2 rfl
          refine bodyPost_ret (v := .tuple #[.agg #[.slice AC r.cs.length cC, .slice AF fs.length cF, .int .i64 mn], .int .i64 0, .int .i64 0]) (by simp [results, Tryz.results7, go_sem, y0, y1, y2]) rfl ⟨HRT.out _ k2 k4, hb9⟩
      | false =>
        have hne : toL x ≠ [] := fun h => by
          rw [ByteArray.toList_eq] at e
          unfold toL at h
          rw [h] at e
          cases e
        have hs6 : s.size ≤ 65536 := by omega
        have hkl := hA.kl
        rw [toL_size] at hkl
        have hgr := hgU.mono hA.rd.bel
        have HB := Lib.hid (hA.lenB hs6).1
        obtain ⟨p, HP⟩ : ∃ p, Hid (p = Lib.cut (toL x) [10]) := ⟨_, Lib.hid rfl⟩
        have HC : Hid (Calls Tryz.prog 24 #[.string x, .string ⟨#[10]⟩] wr fun e w' => e = .returned (.tuple #[.string (bsOf p.1), .string (bsOf p.2.1), .bool p.2.2]) ∧ Below wr.heap.size wr w') := by
          rw [HP.out]
          exact cutS 10 x wr hgr (by omega)
        obtain ⟨l1, l2, fb⟩ := p
        go_upto_region 8 with (refine HC.out.mono ?_; rintro _ w4 ⟨rfl, hb4⟩)
        have hl1 : l1.length ≤ x.size := by
          have := cut_le1 (toL x)
          rw [← HP.out, toL_size] at this
          exact this
        obtain ⟨ws, HW⟩ : ∃ ws, Hid (ws = wrdsL l1) := ⟨_, Lib.hid rfl⟩
        have hwn : ws.length ≤ 1000000 ∧ 0 < ws.length ∧ ∀ y ∈ ws, y.size ≤ 2000000 := by
          have h1 := lnT_wrds l1
          rw [← HW.out] at h1
          have h2 : (lnT ws).length = l1.length + 1 := by rw [h1, List.length_append]; rfl
          refine ⟨Nat.le_trans (lnT_cnt ws) (by omega), ?_, fun y hy => ?_⟩
          · rw [HW.out]
            unfold wrdsL
            rw [List.length_map]
            exact List.length_pos_iff.2 (spl_ne _ _)
          · have h3 := lnT_mem hy
            rw [toL_size] at h3
            omega
        have HS : Hid (Calls Tryz.prog 25 #[.string (bsOf l1), .string ⟨#[32]⟩] w4 fun e w' => e = .returned (.slice (some ⟨w4.heap.size, 0, none⟩) ws.length ws.length) ∧ Box w' w4.heap.size (ws.map Value.string) 9 ∧ Below w4.heap.size w4 w') := by
          rw [HW.out]
          exact splitS 32 (bsOf l1) w4 (hgr.mono hb4) (by rw [← toL_size, toL_bsOf]; omega)
        go_upto_region 9 with (refine HS.out.mono ?_; rintro _ w5 ⟨rfl, hbx, hb5⟩)
        have hb45 : Below wr.heap.size wr w5 := below_step hb4 hb5
        have hrd5 := hA.rd.mono hb45
        have hgr5 := hgr.mono hb45
        obtain ⟨em, HE⟩ : ∃ em, Hid (em = ws.any fun x => x.toList == []) := ⟨_, Lib.hid rfl⟩
        have HCT := Lib.hid (containsE (w := w5) ws em HE (by omega) hbx)
        obtain ⟨o, HO⟩ : ∃ o, Hid (o = lineP r ws) := ⟨_, Lib.hid rfl⟩
        have HL := Lib.hid (rdLine ws _ hrd5 hbx hwn.2.1 hwn.1 hwn.2.2 hgr5 HB.out)
        rw [← HO.out] at HL
        have HBD : Hid (fb = false ∨ em = true ∨ o = none → parsE s.size 1 ⟨[], [], 0⟩ (toL s) = .error ((k : Int) + 1)) := fun h => hA.bad hne (stepI_no1 HP.out (by rw [HE.out, HO.out, HW.out] at h; exact h))
        have HNX : Hid (∀ r', fb = true → em = false → o = some r' → ∀ w', RdSome WU (w.heap.size + 1) r' w' → PsAt s WU (w.heap.size + 1) (k + 1) r' (bsOf l2) w' ∧ l2.length < (toL x).length) := fun r' h1 h2 h3 w' hw => hA.next hs6 hne (stepI_yes HP.out h1 (by rw [← HW.out, ← HE.out]; exact h2) (by rw [← HW.out, ← HO.out]; exact h3)) hw
        clear HE HO HW HP HS HC
        cases fb with
        | false =>
          have HZ := Lib.hid (below_step hbU hrd5.bel)
          have bz := bU.mono hrd5.bel
          have z0 := bz.cell 0 rfl
          have z1 := bz.cell 1 rfl
          have z2 := bz.cell 2 rfl
          have zl := bz.lt
          have zf := fun i => bz.free i
          obtain ⟨bz9, hg9⟩ := bz.store3 (.slice none 0 0) (.slice none 0 0) (.int .i64 0)
          have hb9 := HZ.out.grown hg9 HZ.out.size (fun q hq => by injection hq with hq; omega)
          have HRT := Lib.hid (fun w' => RetPs.bad (w' := w') (by omega) (HBD.out (by simp)))
          go_wp2_with fail
          generalize World.setCell _ _ _ = w9 at *
          clear z0 z1 z2 zl zf
          have y0 := bz9.cell 0 rfl
          have y1 := bz9.cell 1 rfl
          have y2 := bz9.cell 2 rfl
          refine bodyPost_ret (v := .tuple #[.agg #[.slice none 0 0, .slice none 0 0, .int .i64 0], .int .i64 ((k : Int) + 1), .int .i64 2]) (by simp [results, Tryz.results7, go_sem, y0, y1, y2]) rfl ⟨HRT.out _, hb9⟩
        | true =>
          cases em with
          | true =>
            have HZ := Lib.hid (below_step hbU hrd5.bel)
            have bz := bU.mono hrd5.bel
            have z0 := bz.cell 0 rfl
            have z1 := bz.cell 1 rfl
            have z2 := bz.cell 2 rfl
            have zl := bz.lt
            have zf := fun i => bz.free i
            obtain ⟨bz9, hg9⟩ := bz.store3 (.slice none 0 0) (.slice none 0 0) (.int .i64 0)
            have hb9 := HZ.out.grown hg9 HZ.out.size (fun q hq => by injection hq with hq; omega)
            have HRT := Lib.hid (fun w' => RetPs.bad (w' := w') (by omega) (HBD.out (by simp)))
            go_wp2_with (refine HCT.out.mono ?_; rintro _ _ ⟨rfl, rfl⟩)
            generalize World.setCell _ _ _ = w9 at *
            clear z0 z1 z2 zl zf
            have y0 := bz9.cell 0 rfl
            have y1 := bz9.cell 1 rfl
            have y2 := bz9.cell 2 rfl
            refine bodyPost_ret (v := .tuple #[.agg #[.slice none 0 0, .slice none 0 0, .int .i64 0], .int .i64 ((k : Int) + 1), .int .i64 2]) (by simp [results, Tryz.results7, go_sem, y0, y1, y2]) rfl ⟨HRT.out _, hb9⟩
          | false =>
            cases o with
            | none =>
              have HLn : Hid (Calls Tryz.prog 27 #[.pointer (some ⟨w.heap.size + 1, 0, none⟩), .slice (some ⟨w4.heap.size, 0, none⟩) ws.length ws.length] w5 fun e w' => e = .returned (.bool false) ∧ Below WU.heap.size WU w') := Lib.hid (HL.out.mono (by rintro e w' ⟨h1, h2, -⟩; exact ⟨h1, h2⟩))
              go_upto_region 10 with (first | (with_reducible refine Calls.mono HCT.out ?_; rintro _ _ ⟨rfl, rfl⟩) | (with_reducible refine Calls.mono HLn.out ?_; rintro _ w6 ⟨rfl, hb6⟩))
              have HZ := Lib.hid (below_step hbU hb6)
              have bz := bU.mono hb6
              have z0 := bz.cell 0 rfl
              have z1 := bz.cell 1 rfl
              have z2 := bz.cell 2 rfl
              have zl := bz.lt
              have zf := fun i => bz.free i
              obtain ⟨bz9, hg9⟩ := bz.store3 (.slice none 0 0) (.slice none 0 0) (.int .i64 0)
              have hb9 := HZ.out.grown hg9 HZ.out.size (fun q hq => by injection hq with hq; omega)
              have HRT := Lib.hid (fun w' => RetPs.bad (w' := w') (by omega) (HBD.out (by simp)))
              go_wp2_with fail
              generalize World.setCell _ _ _ = w9 at *
              clear z0 z1 z2 zl zf
              have y0 := bz9.cell 0 rfl
              have y1 := bz9.cell 1 rfl
              have y2 := bz9.cell 2 rfl
              refine bodyPost_ret (v := .tuple #[.agg #[.slice none 0 0, .slice none 0 0, .int .i64 0], .int .i64 ((k : Int) + 1), .int .i64 2]) (by simp [results, Tryz.results7, go_sem, y0, y1, y2]) rfl ⟨HRT.out _, hb9⟩
            | some r' =>
              have HLs : Hid (Calls Tryz.prog 27 #[.pointer (some ⟨w.heap.size + 1, 0, none⟩), .slice (some ⟨w4.heap.size, 0, none⟩) ws.length ws.length] w5 fun e w' => e = .returned (.bool true) ∧ RdSome WU (w.heap.size + 1) r' w') := Lib.hid (HL.out.mono (by rintro e w' ⟨h1, h2, h3⟩; exact ⟨h1, h3 r' rfl⟩))
              have hwk : wrap64 ((k : Int) + 1 + 1) = (k : Int) + 1 + 1 := by unfold wrap64; omega
              go_upto_region 11 with (first | (with_reducible refine Calls.mono HCT.out ?_; rintro _ _ ⟨rfl, rfl⟩) | (with_reducible refine Calls.mono HLs.out ?_; rintro _ w6 ⟨rfl, hr6⟩))
              have HN := Lib.hid (HNX.out r' (by simp) (by simp) (by simp) w6 hr6)
              go_wp2_with fail
              go_roundw
              case rel => exact ⟨k + 1, r', bsOf l2, rfl, by go_num, HN.out.1⟩
              case measure =>
                show (bsOf l2).size < x.size
                have h := HN.out.2
                rw [toL_size] at h
                rw [← toL_size, toL_bsOf]
                exact h
end Go.Proofs.YticpeombillmeaaGreatDoor
