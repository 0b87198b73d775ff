/-
  Maps from numbers to lists of numbers, made by the call: 'm[k] = append(m[k], v)'. It holds no statement about the program.
  Chapter 10: the classes below a class.
  Chapter 10: Subs and Targets.
-/
import Derived.Maps.OwnRows
import Derived.Maps.GroupsBeside
import Derived.Test.YtmhdambkchlilaaGreatDoorJGa
import Derived.Test.YtmhdambkchlilaaGreatDoorJGh
namespace Go.Proofs.YtmhdambkchlilaaGreatDoor
open Go.RowKit Go.ChangeShapes Go.WideElems
set_option linter.unusedVariables false

/-- Block b is a map of at most n entries; at key x lies a slice that owns the numbers f x. -/
def GrpIs (P : Program) (k e : TypeId) (w : World) (base b n : Nat) (f : Int → List Int) : Prop :=
  ∃ D : DataW Unit, Maps.IsMap D ∧ w.ownsGroups P k base e .i64 b n D ∧ ∀ x, okInt x → (D.atKey (.int .i64 x) .nil = .nil ∧ f x = []) ∨ D.atKey (.int .i64 x) .nil = .slice (lits .i64 (f x)) []

section
variable {P : Program} {t k E e : TypeId} {w w' : World} {base b n : Nat} {f : Int → List Int}
theorem GrpIs.made (w : World) {b : Nat} (hb : w.heap.size = b) : GrpIs P k e (w.alloc (.map #[] 0)) (b + 1) b 0 (fun _ => []) := by
  subst hb
  exact ⟨.map [], Maps.isMap_empty, World.ownsGroups_made w P k e .i64, fun x _ => Or.inl ⟨rfl, rfl⟩⟩
theorem GrpIs.lt (h : GrpIs P k e w base b n f) : b < w.heap.size ∧ b < base := by
  obtain ⟨D, _, ⟨es, clock, hb, _, _, _, hbb, _⟩, _⟩ := h
  exact ⟨(Array.getElem?_eq_some_iff.1 hb).1, hbb⟩
theorem GrpIs.mono (h : GrpIs P k e w base b n f) (hb : Below w.heap.size w w') : GrpIs P k e w' base b n f := by
  obtain ⟨D, h1, h2, h3⟩ := h
  exact ⟨D, h1, h2.kept (row := none) ⟨hb.os, hb.tape, hb.output, hb.size, fun k hk _ => hb.block k hk⟩ (by simp) (fun es clock _ x _ => by cases x.val.ownBlock <;> simp), h3⟩
theorem lits_inj {a b : List Int} (h : lits (H := Unit) .i64 a = lits .i64 b) : a = b := by
  unfold lits at h
  induction a generalizing b with
  | nil => cases b with
    | nil => rfl
    | cons y r => simp at h
  | cons x q ih => cases b with
    | nil => simp at h
    | cons y r =>
      simp only [List.map_cons, List.cons.injEq] at h
      obtain ⟨h1, h2⟩ := h
      injection h1 with h1
      injection h1 with _ h1
      rw [h1, ih h2]
theorem GrpIs.at (h : GrpIs P k e w base b n f) (K : Maps.Keyed P k) (hk : P.underlying k = some (.int .i64)) (ht : P.underlying t = some (.map k E)) (hz : ∀ w, (zeroValue E).run P w = .ok (.slice none 0 0) w) (hn : n < maxLen) {x : Int} (hx : okInt x) :
    ∃ v, (Instr.lookup t (.map (some b)) (.int .i64 x) false).run P w = .ok v w ∧ w.ownsInts base e .i64 v (f x) ∧ (f x).length ≤ n ∧
      ∀ (w1 : World) (v' : Value) (y : Int), okInt y → w.grownBy w1 v.ownBlock → w1.ownsInts base e .i64 v' (f x ++ [y]) → (v'.ownBlock = v.ownBlock ∨ ∃ g, v'.ownBlock = some g ∧ w.heap.size ≤ g) →
        ∃ w2, (Instr.mapUpdate t (.map (some b)) (.int .i64 x) v').run P w1 = .ok () w2 ∧ GrpIs P k e w2 base b (n + 1) (fun z => if z = x then f x ++ [y] else f z) ∧ w1.grownBy w2 (some b) := by
  obtain ⟨D, h1, h2, h3⟩ := h
  have hkey := Maps.keyOf_int_mk (P := P) hk hx
  obtain ⟨v, zs, hrun, hat, hoi, hzl, hback⟩ := h2.at K ht (hz w) hn hkey
  have hzs : zs = f x := by
    rcases h3 x hx with ⟨e1, e2⟩ | e1
    · rcases hoi.datum (H := Unit) with ⟨e3, e4⟩ | e3
      · rw [e4, e2]
      · rw [hat, e3] at e1; cases e1
    · rcases hoi.datum (H := Unit) with ⟨e3, e4⟩ | e3
      · rw [hat, e3] at e1; cases e1
      · rw [hat, e3] at e1
        injection e1 with e1
        exact lits_inj e1
  subst hzs
  refine ⟨v, hrun, hoi, hzl, fun w1 v' y hy hg ho hloc => ?_⟩
  obtain ⟨w2, hr2, ho2, hg2⟩ := hback w1 v' (f x ++ [y]) hg ho (by simp; omega) hloc
  refine ⟨w2, hr2, ⟨_, h1.put _ _, ho2, fun z hz' => ?_⟩, hg2⟩
  by_cases ez : z = x
  · subst ez
    right
    rw [Maps.atKey_put_same h1 (K.key hkey), ho.datum_pos (by simp)]
    simp
  · have hne : Lit.int .i64 z ≠ Lit.int .i64 x := fun h => ez (by injection h)
    rw [Maps.atKey_put_other hne]
    simp only [if_neg ez]
    exact h3 z hz'
/-- A look-up in a later world hands back what lay there before. -/
theorem GrpIs.lookLater (h : GrpIs P k e w base b n f) (K : Maps.Keyed P k) (hk : P.underlying k = some (.int .i64)) (ht : P.underlying t = some (.map k E)) (hz : ∀ w, (zeroValue E).run P w = .ok (.slice none 0 0) w) (hb : Below w.heap.size w w') {x : Int} (hx : okInt x) :
    ∃ v, (Instr.lookup t (.map (some b)) (.int .i64 x) false).run P w' = .ok v w' ∧ w.ownsInts base e .i64 v (f x) := by
  have hkey := Maps.keyOf_int_mk (P := P) hk hx
  obtain ⟨D, h1, ⟨es, clock, hh, F, hs, rfl, hbb, hlen, hap⟩, h3⟩ := h
  have hblt : b < w.heap.size := (Array.getElem?_eq_some_iff.1 hh).1
  have hg : w.grownBy w' none := ⟨hb.os, hb.tape, hb.output, hb.size, fun k hk _ => hb.block k hk⟩
  have hst : ∀ x ∈ es.toList, ∀ z, rowElem (H := Unit) w base e .i64 x.val = some z → rowElem w' base e .i64 x.val = some z := fun x hx z hz => by
    obtain ⟨zs, ho, rfl⟩ := rowElem_inv hz
    exact rowElem_mk (ho.kept hg (by cases x.val.ownBlock <;> simp))
  obtain ⟨F1, hmap, _⟩ := F.stay hst
  have hsame : ∀ {v : Value} {zs : List Int}, w.ownsInts base e .i64 v zs → (DataW.map ((es.toList.map (rg P k (rowElem (H := Unit) w base e .i64))).foldr DataW.insert [])).atKey (.int .i64 x) .nil = rowDatum .i64 v zs → zs = f x := by
    intro v zs ho hat
    rcases h3 x hx with ⟨e1, e2⟩ | e1
    · rcases ho.datum (H := Unit) with ⟨e3, e4⟩ | e3
      · rw [e4, e2]
      · rw [hat, e3] at e1; cases e1
    · rcases ho.datum (H := Unit) with ⟨e3, e4⟩ | e3
      · rw [hat, e3] at e1; cases e1
      · rw [hat, e3] at e1
        injection e1 with e1
        exact lits_inj e1
  rcases Maps.fit_look false K ht (hz w') ((hb.block b hblt).trans hh) F1 hkey with ⟨hrun, _, hat⟩ | ⟨e0, y, hm0, h3', hrun, hR, hat, _⟩
  · rw [hmap] at hat
    have ho := World.ownsInts_nil w base e .i64
    exact ⟨_, hrun, by rw [← hsame ho (hat _)]; exact ho⟩
  · rw [hmap] at hat
    obtain ⟨y0, hy0⟩ := F.reads e0 hm0
    obtain ⟨z, hz0, _⟩ := rd_val hy0
    obtain ⟨zs, ho, rfl⟩ := rowElem_inv hz0
    have h4 := hst e0 hm0 _ hz0
    rw [hR] at h4
    have h5 := Option.some.inj h4
    subst h5
    exact ⟨_, hrun, by rw [← hsame ho (hat _)]; exact ho⟩
end
/-- A row is no map. -/
theorem own_ne_map {α β γ : Type} {cells : α → List Value} {size base : Nat} {e : TypeId} {w : World} {v : Value} {l : List α} (h : Own cells size base e w v l)
    {P : Program} {t k e' : TypeId} {κ : β → Value} {okk : β → Prop} {lit : β → Lit} {ν : γ → Value} {okv : γ → Prop} {dat : γ → DataW Unit} {zero : γ} {T : MapTy P t k e' κ okk lit ν okv dat zero} {b n : Nat} {f : β → Option γ} (hm : MapIs T w b n f) :
    v.ownBlock = none ∨ v.ownBlock ≠ some b := by
  rcases h.2 with ⟨rfl, _⟩ | ⟨g, cap, cur, rfl, h1, h2, _⟩
  · exact Or.inl rfl
  · refine Or.inr fun h3 => ?_
    simp [Value.ownBlock] at h3
    subst h3
    obtain ⟨D, _, ⟨es, clock, hh, _⟩, _⟩ := hm
    rw [h2] at hh
    cases hh
theorem own_ne_map' {α β γ : Type} {cells : α → List Value} {size base : Nat} {e : TypeId} {w : World} {v : Value} {l : List α} (h : Own cells size base e w v l)
    {P : Program} {t k e' : TypeId} {κ : β → Value} {okk : β → Prop} {lit : β → Lit} {ν : γ → Value} {okv : γ → Prop} {dat : γ → DataW Unit} {zero : γ} {T : MapTy P t k e' κ okk lit ν okv dat zero} {b n : Nat} {f : β → Option γ} (hm : MapIs T w b n f) :
    some b ≠ v.ownBlock := by
  rcases own_ne_map h hm with h1 | h1
  · rw [h1]; simp
  · exact fun h2 => h1 h2.symm
theorem ownsInts_own {w : World} {base : Nat} {e : TypeId} {v : Value} {zs : List Int} (h : w.ownsInts base e .i64 v zs) : Own cellsInt 1 base e w v zs := by
  have := h.1
  unfold Own
  rw [show zs.flatMap cellsInt = zs.map (Value.int .i64) from flatMap_one (c := fun x => Value.int .i64 x) zs]
  exact this
theorem own_ownsInts {w : World} {base : Nat} {e : TypeId} {v : Value} {zs : List Int} (h : Own cellsInt 1 base e w v zs) (hz : ∀ z ∈ zs, okInt z) : w.ownsInts base e .i64 v zs := by
  unfold Own at h
  rw [show zs.flatMap cellsInt = zs.map (Value.int .i64) from flatMap_one (c := fun x => Value.int .i64 x) zs] at h
  exact ⟨h, hz⟩

/-- 'append(s, y)': it also tells where the new slice lies. -/
theorem wpList_pushL {P : Program} {α : Type} {cells : α → List Value} {t e : TypeId} {size bytes : Nat} {z : Value} (T : ElemTy P t e size bytes z) (hc : CellsOk cells size)
    {ops : Array Oper} {rest : List Oper} {o : Oper} {a : Act} {Q : Exit → Act → World → Prop} {w : World} (hgd : o.guard = none) (s x : Operand)
    (ho : o.op = .call { callee := .builtin .append, args := #[s, x], argTypes := #[t, t] }) (base : Nat) (v : Value) (l : List α) (hs : a.eval s = v) (hown : Own cells size base e w v l)
    (y : α) (g c : Nat) (hx : a.eval x = .slice (some ⟨g, 0, none⟩) 1 c) (hy : ∀ j u, (cells y)[j]? = some u → w.cell? ⟨g, j, none⟩ = some u)
    (h63 : l.length + 1 ≤ maxLen) (hbytes : (l.length + 1) * bytes ≤ 140737488355328) (hbase : base ≤ w.heap.size)
    (h : ∀ v' w', Own cells size base e w' v' (l ++ [y]) → w.grownBy w' v.ownBlock → (v'.ownBlock = v.ownBlock ∨ ∃ g, v'.ownBlock = some g ∧ w.heap.size ≤ g) → wpList P ops Q rest (a.put o.dst v') w') : wpList P ops Q (o :: rest) a w := by
  obtain ⟨i, hi, hz, hsz, hby⟩ := info_parts T.info
  refine wpList_append_own_at w hgd s x t ho base e i z size bytes T.under hi hz hsz hby T.zero T.pos v l.length (l.flatMap cells) hs hown ⟨g, 0, none⟩ 1 c (cells y) hx
    (by rw [hc.len, Nat.one_mul]) (fun j u hu => by
      have := hy j u hu
      unfold Addr.add
      split
      · rename_i h0; rw [h0] at this; exact this
      · simpa using this) (hc.one y) h63 hbytes hbase ?_
  intro v' w' hown' hg _ hloc
  refine h v' w' ?_ hg (hloc.imp id fun h => ⟨_, h, by simp⟩)
  unfold Own
  rw [List.flatMap_append, List.length_append, List.flatMap_singleton]
  exact hown'
/-- A store whose run is known. -/
theorem wpList_mapRun {P : Program} {t : TypeId} {w w2 : World} {ops : Array Oper} {rest : List Oper} {o : Oper} {a : Act} {Q : Exit → Act → World → Prop} (hg : o.guard = none) (m x v : Operand) (hop : o.op = Op.mapUpdate t m x v)
    (vm vx vv : Value) (hm : a.eval m = vm) (hx : a.eval x = vx) (hv : a.eval v = vv) (hrun : (Instr.mapUpdate t vm vx vv).run P w = .ok () w2) (hK : wpList P ops Q rest (a.put o.dst undef) w2) : wpList P ops Q (o :: rest) a w := by
  refine wpList_plain hg fun K' hK' => ?_
  unfold Oper.wp
  simp [execOp, hop, hm, hx, hv, hrun, Result.andThen]
  exact hK' _ _ hK
end Go.Proofs.YtmhdambkchlilaaGreatDoor
namespace Go.Proofs.YtmhdambkchlilaaGreatDoor
open Go.RowKit
set_option linter.unusedVariables false

/-- Class i is the first of its name, and u is its superclass. -/
def isKid (cs : List Cls) (u : Int) (i : Nat) : Bool := decide (0 ≤ supI cs i) && decide (supI cs i = u) && decide (fnd cs (nmAt cs i) = i)
def kidsTo (cs : List Cls) (n : Nat) (u : Int) : List Int := ((List.range n).filter (isKid cs u)).map Int.ofNat
def kidsI (cs : List Cls) (u : Int) : List Int := kidsTo cs cs.length u
theorem kidsTo_succ (cs : List Cls) (n : Nat) (u : Int) : kidsTo cs (n + 1) u = kidsTo cs n u ++ (if isKid cs u n then [(n : Int)] else []) := by
  unfold kidsTo
  rw [List.range_succ, List.filter_append, List.map_append]
  congr 1
  by_cases h : isKid cs u n <;> simp [h]
theorem kidsTo_len (cs : List Cls) (n : Nat) (u : Int) : (kidsTo cs n u).length ≤ n := by
  unfold kidsTo; rw [List.length_map]; exact Nat.le_trans (List.length_filter_le _ _) (by simp)
theorem kidsTo_mem {cs : List Cls} {n : Nat} {u x : Int} : x ∈ kidsTo cs n u ↔ ∃ i : Nat, x = i ∧ i < n ∧ isKid cs u i = true := by
  unfold kidsTo
  rw [List.mem_map]
  constructor
  · rintro ⟨i, hi, rfl⟩
    rw [List.mem_filter, List.mem_range] at hi
    exact ⟨i, rfl, hi.1, hi.2⟩
  · rintro ⟨i, rfl, h1, h2⟩
    exact ⟨i, by rw [List.mem_filter, List.mem_range]; exact ⟨h1, h2⟩, rfl⟩
theorem kidsTo_yes {cs : List Cls} {n u : Nat} (hu : supI cs n = u) (hf : fnd cs (nmAt cs n) = n) : kidsTo cs (n + 1) = fun z => if z = (u : Int) then kidsTo cs n u ++ [(n : Int)] else kidsTo cs n z := by
  funext z
  rw [kidsTo_succ]
  by_cases hz : z = u
  · subst hz
    have : isKid cs u n = true := by simp [isKid, hu, hf]
    rw [if_pos this, if_pos rfl]
  · have : isKid cs z n = false := by
      have : ¬ ((u : Int) = z) := fun e => hz e.symm
      simp [isKid, hu, this]
    rw [if_neg (by rw [this]; simp), if_neg hz, List.append_nil]
theorem kidsTo_no {cs : List Cls} {n : Nat} (h : ¬ (0 ≤ supI cs n ∧ fnd cs (nmAt cs n) = n)) : kidsTo cs (n + 1) = kidsTo cs n := by
  funext z
  rw [kidsTo_succ]
  have : isKid cs z n = false := by
    cases hq : isKid cs z n with
    | false => rfl
    | true =>
      simp only [isKid, Bool.and_eq_true, decide_eq_true_eq] at hq
      exact absurd ⟨hq.1.1, hq.2⟩ h
  rw [if_neg (by rw [this]; simp), List.append_nil]

/-- New ones behind. -/
def addNew (l : List Int) (r : List Int) : List Int := r.foldl (fun l x => if x ∈ l then l else l ++ [x]) l
theorem addNew_snoc (l r : List Int) (x : Int) : addNew l (r ++ [x]) = if x ∈ addNew l r then addNew l r else addNew l r ++ [x] := by unfold addNew; rw [List.foldl_append]; rfl
def bfs (kids : Int → List Int) : Nat → Nat → List Int → List Int
  | 0, _, l => l
  | f + 1, k, l => if h : k < l.length then bfs kids f (k + 1) (addNew l (kids l[k])) else l
theorem bfs_step {kids : Int → List Int} {f k : Nat} {l : List Int} (h : k < l.length) : bfs kids (f + 1) k l = bfs kids f (k + 1) (addNew l (kids l[k])) := by rw [bfs, dif_pos h]
theorem bfs_stop {kids : Int → List Int} {f k : Nat} {l : List Int} (h : ¬ k < l.length) : bfs kids f k l = l := by
  cases f with
  | zero => rfl
  | succ f => rw [bfs, dif_neg h]
structure InRange (n : Nat) (l : List Int) : Prop where
  bd : ∀ x ∈ l, 0 ≤ x ∧ x < (n : Int)
  nd : l.Nodup
theorem InRange.len {n : Nat} {l : List Int} (h : InRange n l) : l.length ≤ n := nodup_le h.nd h.bd
theorem InRange.snoc {n : Nat} {l : List Int} {x : Int} (h : InRange n l) (hx : 0 ≤ x ∧ x < (n : Int)) (hn : x ∉ l) : InRange n (l ++ [x]) := by
  refine ⟨fun y hy => ?_, ?_⟩
  · rcases List.mem_append.1 hy with hy | hy
    · exact h.bd y hy
    · simp at hy; subst hy; exact hx
  · rw [List.nodup_append]
    refine ⟨h.nd, by simp, fun a ha b hb => ?_⟩
    simp at hb; subst hb
    intro e; subst e; exact hn ha
def subsI (cs : List Cls) (s : ByteArray) : List Int := if fnd cs s < 0 then [] else bfs (kidsI cs) cs.length 0 [fnd cs s]

theorem grpKeyed : Maps.Keyed Tryz.prog 3 := Maps.int_keyed Tryz.underlying3
theorem grpZero (w : World) : (zeroValue 57).run Tryz.prog w = .ok (.slice none 0 0) w := by kernel_rfl
theorem GrpIs.look {w : World} {base b n : Nat} {f : Int → List Int} (h : GrpIs Tryz.prog 3 3 w base b n f) (hn : n < maxLen) {x : Int} (hx : okInt x) :
    ∃ v, (Instr.lookup 122 (.map (some b)) (.int .i64 x) false).run Tryz.prog w = .ok v w ∧ IntsV w v (f x) := by
  obtain ⟨v, h1, h2, _⟩ := h.at grpKeyed Tryz.underlying3 Tryz.underlying122 grpZero hn hx
  exact ⟨v, h1, IntsV.of_own (ownsInts_own h2)⟩

set_option maxRecDepth 100000 in
set_option maxHeartbeats 2000000 in
theorem tSubs_any (A : Option Addr) (c b : Nat) (cs : List Cls) (s : ByteArray) (w : World) (hl : cs.length ≤ 8796093022208) (hT : TabV w A c b cs) (hok : Hid (NamesOk cs)) (hs : okStr s) :
    Calls Tryz.prog 122 #[.agg #[.slice A cs.length c, .map (some b)], .string s] w fun e w' => (∃ v, e = .returned v ∧ Own cellsInt 1 w.heap.size 3 w' v (subsI cs s)) ∧ Below w.heap.size w w' := by
  have hfb := fnd_bd cs s
  have hmk1 := run_makeMap_none (P := Tryz.prog) 122 3 57 Tryz.underlying122
  have hmk2 := run_makeMap_none (P := Tryz.prog) 133 3 4 Tryz.underlying133
  have hb0 : Below w.heap.size w (w.alloc (.cells #[.slice A cs.length c, .map (some b)] 155)) := (by repeat (first | assumption | exact Below.refl _ _ | apply bw_alloc | apply bw_drew | apply bw_drewN | apply bw_later | apply bw_step))
  have hbx := Box.new w [.slice A cs.length c, .map (some b)] 155
  go_enter Tryz.func122, Tryz.ntmps122
  go_wp2_with fail
  refine (tFind_any A c b cs s _ (hT.mono hb0) hs).mono ?_
  rintro e w1 ⟨rfl, hb1⟩
  have hbx1 := hbx.mono hb1
  have hbw1 := below_step hb0 hb1
  clear hbx hb0 hb1
  by_cases hneg : fnd cs s < 0
  · have HS : Hid (subsI cs s = []) := by show _ = _; unfold subsI; rw [if_pos hneg]
    go_wp2_with fail
    go_ret
    exact ⟨⟨_, rfl, by rw [HS.out]; exact Own.nil⟩, hbw1⟩
  · have HS : Hid (subsI cs s = bfs (kidsI cs) cs.length 0 [fnd cs s]) := by show _ = _; unfold subsI; rw [if_neg hneg]
    obtain ⟨r, hr⟩ : ∃ r : Nat, fnd cs s = r := ⟨(fnd cs s).toNat, by omega⟩
    rw [hr] at HS hfb ⊢
    have hrl : r < cs.length := by omega
    clear hr hneg
    have e0 := hbx1.cell 0 rfl
    have e1 := hbx1.cell 1 rfl
    have hxl := hbx1.lt
    go_wp2_with fail
    have hg0 : GrpIs Tryz.prog 3 3 (w1.alloc (.map #[] 0)) (w1.heap.size + 1) w1.heap.size 0 (kidsTo cs 0) := GrpIs.made w1 rfl
    go_loopw [24] (fun i wr => ∃ k n : Nat, k ≤ cs.length ∧ n ≤ k ∧ i = .int .i64 k ∧ GrpIs Tryz.prog 3 3 wr (w1.heap.size + 1) w1.heap.size n (kidsTo cs k) ∧ Below w1.heap.size w1 wr) (fun i _ => cs.length - (intOf i).toNat)
    case atStart => exact ⟨0, 0, Nat.zero_le _, Nat.zero_le _, rfl, hg0, (by repeat (first | assumption | exact Below.refl _ _ | apply bw_alloc | apply bw_drew | apply bw_drewN | apply bw_later | apply bw_step))⟩
    case round =>
      clear hg0 hmk1
      obtain ⟨k, n, hk, hn, rfl, hgr, hbw⟩ := hrel
      have hbwk := below_step hbw1 hbw
      have hbxk := hbx1.mono hbw
      have q0 := hbxk.cell 0 rfl
      have q1 := hbxk.cell 1 rfl
      have hxk := hbxk.lt
      clear e0 e1
      by_cases hlt : k < cs.length
      · obtain ⟨b0, o, A2, c2, A3, c3, rfl, hb, d0, d1, d2, d3, hc2, hs2, hc3, hs3⟩ := (hT.sl.mono hbwk).cls_at hlt
        go_wp2_with fail
        have hb4 : Below wr.heap.size wr (wr.alloc (.cells #[.string cs[k].name, .string cs[k].super, .slice A2 cs[k].fields.length c2, .slice A3 cs[k].methods.length c3] 94)) := (by repeat (first | assumption | exact Below.refl _ _ | apply bw_alloc | apply bw_drew | apply bw_drewN | apply bw_later | apply bw_step))
        have hbc4 := Box.new wr [.string cs[k].name, .string cs[k].super, .slice A2 cs[k].fields.length c2, .slice A3 cs[k].methods.length c3] 94
        refine (tSuper_any _ c b cs k _ (by omega) hlt (hT.mono (below_step hbwk hb4)) hok).mono ?_
        rintro e w5 ⟨rfl, hb5⟩
        have hb45 := below_step hb4 hb5
        have hbw5 := below_step hbw hb45
        have hbx5 := hbxk.mono hb45
        have hbc5 := hbc4.mono hb5
        have hgr5 := hgr.mono hb45
        have hsb := supI_bd cs k
        have HNM := Lib.hid (nmAt_nat hlt)
        have HKN := Lib.hid (@kidsTo_no cs k)
        rw [HNM.out] at HKN
        clear q0 q1 d0 d1 d2 d3 hbxk hbc4 hb4 hb5 hgr
        have q0 := hbx5.cell 0 rfl
        have q1 := hbx5.cell 1 rfl
        have hx5 := hbx5.lt
        have p0 := hbc5.cell 0 rfl
        have hc5 := hbc5.lt
        by_cases hup : 0 ≤ supI cs k
        · obtain ⟨u, hu⟩ : ∃ u : Nat, supI cs k = u := ⟨(supI cs k).toNat, by omega⟩
          have HKY := Lib.hid (@kidsTo_yes cs k u hu)
          rw [HNM.out] at HKY
          rw [hu] at HKN hsb hup ⊢
          have HU := Lib.hid hu
          clear hu
          have hnk : okStr cs[k].name := (hok.out _ (List.getElem_mem hlt)).1
          go_wp2_with fail
          refine (tFind_any _ c b cs cs[k].name _ (hT.mono (below_step hbw1 hbw5)) hnk).mono ?_
          rintro e w6 ⟨rfl, hb6⟩
          have hbw6 := below_step hbw5 hb6
          have hgr6 := hgr5.mono hb6
          have hsz6 := hgr6.lt.1
          clear q0 q1 p0 hgr5
          by_cases heq : fnd cs cs[k].name = k
          · have HE := Lib.hid (HKY.out heq)
            have he1 : (fnd cs cs[k].name == (k : Int)) = true := by simp [heq]
            obtain ⟨v, hrun, hoi, hzl, hback⟩ := hgr6.at (t := 122) (E := 57) grpKeyed Tryz.underlying3 Tryz.underlying122 grpZero (by unfold maxLen; omega) (x := (u : Int)) (okInt_of (by omega) (by omega))
            have HBK := Lib.hid hback
            clear hback heq
            have hkl := kidsTo_len cs k u
            have hkm : Hid (∀ z ∈ kidsTo cs k u ++ [(k : Int)], okInt z) := fun z hz => by
              rcases List.mem_append.1 hz with hz | hz
              · obtain ⟨i, rfl, hi, _⟩ := kidsTo_mem.1 hz
                exact okInt_of (by omega) (by omega)
              · simp at hz; subst hz; exact okInt_of (by omega) (by omega)
            go_wp2_with (first | (at_builtin; refine wpList_pushL intsTy cellsInt_ok rfl (.tmp 46) (.tmp 48) rfl (w1.heap.size + 1) v (kidsTo cs k u) rfl ((ownsInts_own hoi).alloc _) (k : Int) _ _ rfl (cells_one_new _ _ _) (by unfold maxLen; omega) (by omega) ?_ ?_; (simp; omega); intro v7 w7 hown7 hg7 hloc7; have hg67 := (World.grownBy_alloc w6 _ _).trans hg7; obtain ⟨w8, hr8, hgr8, hg8⟩ := HBK.out w7 v7 (k : Int) (okInt_of (by omega) (by omega)) hg67 (own_ownsInts hown7 hkm.out) (hloc7.imp id (fun ⟨g, h1, h2⟩ => ⟨g, h1, by simp at h2; omega⟩))) | (at_mapUpdate; refine wpList_mapRun rfl (.tmp 42) (.tmp 43) (.tmp 49) rfl _ _ _ rfl rfl rfl hr8 ?_))
            go_roundw
            case rel => exact ⟨k + 1, n + 1, by omega, by omega, by go_num, by rw [HE.out]; exact hgr8, RowKit.Below.groups hbw6 hoi hg67 hg8 hbw6.size (by omega) (by omega)⟩
            case measure => simp [intOf]; omega
          · have HE := Lib.hid (HKN.out (fun h => heq h.2))
            have he1 : (fnd cs cs[k].name == (k : Int)) = false := by simpa using heq
            clear heq
            go_wp2_with fail
            go_roundw
            case rel => exact ⟨k + 1, n, by omega, by omega, by go_num, by rw [HE.out]; exact hgr6, hbw6⟩
            case measure => simp [intOf]; omega
        · have HE := Lib.hid (HKN.out (fun h => hup h.1))
          go_wp2_with fail
          go_roundw
          case rel => exact ⟨k + 1, n, by omega, by omega, by go_num, by rw [HE.out]; exact hgr5, hbw5⟩
          case measure => simp [intOf]; omega
      · obtain rfl : k = cs.length := by omega
        have HGR := Lib.hid hgr
        clear hgr q0 q1 hbxk hbx1
        have hm0 := MapIs.made0 intBoolTy (wr.alloc (.cells #[.int .i64 r] 3)) (b := wr.heap.size + 1) (by simp) (f := seenF []) (fun x => by simp [seenF])
        obtain ⟨w3, hr3, hm3, hg3⟩ := hm0.set (x := (r : Int)) (y := true) (okInt_of (by omega) (by omega)) trivial (by unfold maxLen; omega)
        rw [← seenF_snoc, List.nil_append] at hm3
        have hown0 : Own cellsInt 1 wr.heap.size 3 (wr.alloc (.cells #[.int .i64 r] 3)) (.slice (some ⟨wr.heap.size, 0, none⟩) 1 1) [(r : Int)] := Own.lit wr #[.int .i64 r] [(r : Int)] (Nat.le_refl _) (by simp [maxLen]) (by simp) rfl
        have hown3 := World.ownsRow.kept (hown0.alloc (.map #[] 0)) hg3 (own_ne_map (hown0.alloc _) hm0)
        have hbw3 : Below wr.heap.size wr w3 := (bw_alloc (bw_alloc (Below.refl _ _))).grown hg3 (by simp; omega) (fun k hk => by injection hk with hk; omega)
        clear hm0 hg3 hown0
        go_wp2_with fail
        clear hr3 hmk2
        obtain ⟨W, rfl⟩ : ∃ W : World, W = wr := ⟨_, rfl⟩
        go_loopw [10, 12] (fun v10 v12 wr => ∃ (l : List Int) (k f : Nat), k ≤ l.length ∧ f + k = cs.length ∧ v12 = .int .i64 k ∧ bfs (kidsI cs) cs.length 0 [(r : Int)] = bfs (kidsI cs) f k l ∧ InRange cs.length l
            ∧ Own cellsInt 1 W.heap.size 3 wr v10 l ∧ MapIs intBoolTy wr (W.heap.size + 1) l.length (seenF l) ∧ Below W.heap.size W wr) (fun _ v12 _ => cs.length - (intOf v12).toNat)
        case atStart => exact ⟨[(r : Int)], 0, cs.length, by simp, rfl, rfl, rfl, ⟨fun x hx => by simp at hx; subst hx; omega, by simp⟩, hown3, hm3, hbw3⟩
        case round =>
          clear hown3 hm3 hbw3
          obtain ⟨l, k, f, hkl, hfk, rfl, HB0, hir, hown, hm, hbw4⟩ := hrel
          have HB := Lib.hid HB0
          have HIR := Lib.hid hir
          have hll := hir.len
          clear HB0 hir
          obtain ⟨Al, cl, rfl, hcl, hsl⟩ := IntsV.of_own hown
          by_cases hlt : k < l.length
          · obtain ⟨bl, ol, rfl, hbl, dl⟩ := hsl.int_at hlt
            have hlk := HIR.out.bd l[k] (List.getElem_mem hlt)
            obtain ⟨v, hrun, hoi⟩ := HGR.out.lookLater (t := 122) (E := 57) grpKeyed Tryz.underlying3 Tryz.underlying122 grpZero hbw4 (x := l[k]) (okInt_of (by omega) (by omega))
            have hKl := kidsTo_len cs cs.length l[k]
            have HKM : Hid (∀ x ∈ kidsI cs l[k], 0 ≤ x ∧ x < (cs.length : Int)) := fun x hx => by
              obtain ⟨i, rfl, hi, _⟩ := kidsTo_mem.1 hx
              omega
            obtain ⟨f', rfl⟩ : ∃ f', f = f' + 1 := ⟨f - 1, by omega⟩
            have HST := Lib.hid (bfs_step (kids := kidsI cs) (f := f') hlt)
            change (kidsI cs l[k]).length ≤ cs.length at hKl
            change W.ownsInts (w1.heap.size + 1) 3 .i64 v (kidsI cs l[k]) at hoi
            generalize kidsI cs l[k] = KK at *
            obtain ⟨AK, cK, rfl, hcK, hsK⟩ := IntsV.of_own (ownsInts_own hoi)
            go_wp2_with fail
            clear dl hrun hsl hoi
            obtain ⟨wo, rfl⟩ : ∃ wo : World, wo = wr := ⟨_, rfl⟩
            go_loopw [10, 69] (fun v10 v69 wr => ∃ (l2 : List Int) (j : Nat), j ≤ KK.length ∧ v69 = .int .i64 j ∧ l2 = addNew l (KK.take j) ∧ l.length ≤ l2.length ∧ InRange cs.length l2
              ∧ Own cellsInt 1 W.heap.size 3 wr v10 l2 ∧ MapIs intBoolTy wr (W.heap.size + 1) l2.length (seenF l2) ∧ Below W.heap.size W wr) (fun _ v69 _ => KK.length - (intOf v69).toNat)
            case atStart => exact ⟨l, 0, Nat.zero_le _, rfl, rfl, Nat.le_refl _, HIR.out, hown, hm, hbw4⟩
            case round =>
              clear hown hm hbw4 hbl
              obtain ⟨l2, j, hj, rfl, HL0, hll2, hir2, hown, hm, hbw5⟩ := hrel
              have HL2 := Lib.hid HL0
              have HIR2 := Lib.hid hir2
              have hlen2 := hir2.len
              clear HL0 hir2
              by_cases hjt : j < KK.length
              · obtain ⟨bK, oK, rfl, hbK, dK⟩ := (hsK.mono hbw5).int_at hjt
                have hkb := HKM.out KK[j] (List.getElem_mem hjt)
                have hlook := hm.look (x := KK[j]) (okInt_of (by omega) (by omega))
                rw [seenF_get] at hlook
                have HAN := Lib.hid (addNew_snoc l (KK.take j) KK[j])
                rw [← List.take_succ_eq_append_getElem hjt, ← HL2.out] at HAN
                by_cases hin : KK[j] ∈ l2
                · rw [if_pos hin] at HAN
                  rw [decide_eq_true hin] at hlook
                  clear hin
                  go_wp2_with fail
                  go_roundw
                  case rel => exact ⟨l2, j + 1, by omega, by go_num, by rw [HAN.out], hll2, HIR2.out, hown, hm, hbw5⟩
                  case measure => simp [intOf]; omega
                · have HSN := Lib.hid (seenF_snoc l2 KK[j])
                  have HI3 := Lib.hid (HIR2.out.snoc hkb hin)
                  have hl3 := HI3.out.len
                  rw [List.length_append] at hl3
                  simp only [List.length_singleton] at hl3
                  rw [if_neg hin] at HAN
                  rw [decide_eq_false hin] at hlook
                  clear hin
                  have hne1 := own_ne_map hown hm
                  have hsz5 := hbw5.size
                  have hmlt := hm.lt
                  go_wp2_with (first | (at_mapUpdate; refine wpList_mapSet intBoolTy rfl (.tmp 77) (.tmp 78) _ rfl (W.heap.size + 1) l2.length _ rfl hm (by unfold maxLen; omega) KK[j] true rfl rfl (okInt_of (by omega) (by omega)) trivial ?_; intro w6 hm6 hg6; have hown6 := World.ownsRow.kept hown hg6 hne1; have hbw6 := hbw5.grown hg6 hbw5.size (fun k hk => by injection hk with hk; omega); have hmlt6 := hm6.lt) | (at_builtin; refine wpList_pushG intsTy cellsInt_ok rfl (.tmp 79) (.tmp 81) rfl W.heap.size _ l2 rfl (Own.alloc hown6 _) KK[j] _ _ rfl (cells_one_new _ _ _) (by unfold maxLen; omega) (by omega) ?_ ?_; (simp; omega); intro v7 w7 hown7 hb7 hg7))
                  go_roundw
                  case rel => exact ⟨l2 ++ [KK[j]], j + 1, by omega, by go_num, by rw [HAN.out], by rw [List.length_append]; omega, HI3.out, hown7, by
                    rw [HSN.out, List.length_append]
                    exact (hm6.alloc _).kept hg7 (own_ne_map' hown6 hm6), (bw_alloc hbw6).trans hb7⟩
                  case measure => simp [intOf]; omega
              · have HT := Lib.hid (show KK.take j = KK from List.take_of_length_le (by omega))
                rw [HT.out] at HL2
                go_wp2_with fail
                go_roundw
                case rel => exact ⟨l2, k + 1, f', by omega, by omega, by go_num, by rw [HB.out, HST.out, HL2.out], HIR2.out, hown, hm, hbw5⟩
                case measure => simp [intOf]; omega
          · have HE := Lib.hid (bfs_stop (kids := kidsI cs) (f := f) hlt)
            rw [HE.out] at HB
            go_wp2_with fail
            go_ret
            exact ⟨⟨_, rfl, by rw [HS.out, HB.out]; exact hown.weaken (by have := hbw1.size; have := hbw.size; omega)⟩, below_step hbwk hbw4⟩
end Go.Proofs.YtmhdambkchlilaaGreatDoor
namespace Go.Proofs.YtmhdambkchlilaaGreatDoor
open Go.RowKit
set_option linter.unusedVariables false

theorem addNew_range {n : Nat} {l r : List Int} (h : InRange n l) (hr : ∀ x ∈ r, 0 ≤ x ∧ x < (n : Int)) : InRange n (addNew l r) := by
  induction r generalizing l with
  | nil => exact h
  | cons x q ih =>
    unfold addNew
    rw [List.foldl_cons]
    have hq : ∀ y ∈ q, 0 ≤ y ∧ y < (n : Int) := fun y hy => hr y (by simp [hy])
    by_cases hx : x ∈ l
    · rw [if_pos hx]; exact ih h hq
    · rw [if_neg hx]; exact ih (h.snoc (hr x (by simp)) hx) hq
theorem bfs_range {n : Nat} {kids : Int → List Int} (hk : ∀ u, ∀ x ∈ kids u, 0 ≤ x ∧ x < (n : Int)) : ∀ (f k : Nat) (l : List Int), InRange n l → InRange n (bfs kids f k l)
  | 0, _, l, h => h
  | f + 1, k, l, h => by
    by_cases hlt : k < l.length
    · rw [bfs_step hlt]; exact bfs_range hk f (k + 1) _ (addNew_range h (hk _))
    · rw [bfs_stop hlt]; exact h
theorem kidsI_range (cs : List Cls) (u : Int) : ∀ x ∈ kidsI cs u, 0 ≤ x ∧ x < (cs.length : Int) := fun x hx => by
  obtain ⟨i, rfl, hi, _⟩ := kidsTo_mem.1 hx
  omega
theorem subsI_range (cs : List Cls) (s : ByteArray) : InRange cs.length (subsI cs s) := by
  unfold subsI
  split
  · exact ⟨by simp, by simp⟩
  · refine bfs_range (kidsI_range cs) _ _ _ ⟨fun x hx => ?_, by simp⟩
    simp at hx; subst hx
    have := fnd_bd cs s
    omega
def tgtOf (cs : List Cls) (m : ByteArray) (i : Int) : List ByteArray := if 0 ≤ (lookI cs m i).1 then [nmAt cs (lookI cs m i).1] else []
def targetsL (cs : List Cls) (s m : ByteArray) : List ByteArray := ascS ((subsI cs s).flatMap (tgtOf cs m))
theorem tgts_len (cs : List Cls) (m : ByteArray) : ∀ l : List Int, (l.flatMap (tgtOf cs m)).length ≤ l.length
  | [] => by simp
  | x :: r => by
    rw [List.flatMap_cons, List.length_append, List.length_cons]
    have h1 := tgts_len cs m r
    have h2 : (tgtOf cs m x).length ≤ 1 := by unfold tgtOf; split <;> simp
    omega
theorem targetsL_len (cs : List Cls) (s m : ByteArray) : (targetsL cs s m).length ≤ cs.length := by
  unfold targetsL
  exact Nat.le_trans (ascS_len _) (Nat.le_trans (tgts_len _ _ _) (subsI_range cs s).len)

set_option maxRecDepth 100000 in
set_option maxHeartbeats 1000000 in
theorem targets_any (A : Option Addr) (c : Nat) (cs : List Cls) (s m : ByteArray) (w : World) (hl : cs.length ≤ 8796093022208) (hcc : cs.length ≤ c) (hsl : Sl Lay.cls w A cs) (hok : Hid (NamesOk cs)) (hlk : Hid (LensOk cs)) (hs : okStr s) :
    Calls Tryz.prog 62 #[.agg #[.slice A cs.length c], .string s, .string m] w fun e w' => (∃ v, e = .returned v ∧ Own cellsStr 1 w.heap.size 9 w' v (targetsL cs s m)) ∧ Below w.heap.size w w' := by
  go_enter Tryz.func62, Tryz.ntmps62
  go_wp2_with fail
  have hb0 : Below w.heap.size w (w.alloc (.cells #[.slice A cs.length c] 29)) := (by repeat (first | assumption | exact Below.refl _ _ | apply bw_alloc | apply bw_drew | apply bw_drewN | apply bw_later | apply bw_step))
  refine (tableOf_any A c cs _ (by omega) hcc (hsl.mono hb0) hok).mono ?_
  rintro e w1 ⟨⟨b, rfl, hT⟩, hb1⟩
  have hbw1 := below_step hb0 hb1
  go_wp2_with fail
  have hbx := Box.new w1 [.slice A cs.length c, .map (some b)] 155
  have hb12 : Below w1.heap.size w1 (w1.alloc (.cells #[.slice A cs.length c, .map (some b)] 155)) := (by repeat (first | assumption | exact Below.refl _ _ | apply bw_alloc | apply bw_drew | apply bw_drewN | apply bw_later | apply bw_step))
  have hbw2 : Below w.heap.size w (w1.alloc (.cells #[.slice A cs.length c, .map (some b)] 155)) := bw_alloc hbw1
  refine (tSubs_any A c b cs s _ hl (hT.mono hb12) hok hs).mono ?_
  rintro e w2 ⟨⟨v2, rfl, hown2⟩, hb2⟩
  have hbx2 := hbx.mono hb2
  have hbw3 := below_step hbw2 hb2
  have hT2 := (hT.mono hb12).mono hb2
  have hLb := (subsI_range cs s).bd
  have hLl := (subsI_range cs s).len
  have HSP : Hid (targetsL cs s m = ascS ((subsI cs s).flatMap (tgtOf cs m))) := rfl
  generalize subsI cs s = L at *
  have HLB := Lib.hid hLb
  have hxlt : w1.heap.size < w2.heap.size := hbx2.lt
  clear hLb hbx hb2 hb1 hb0 hbw2 hT hb12
  obtain ⟨AL, cL, rfl, hcL, hsL⟩ := IntsV.of_own hown2
  clear hown2
  go_wp2_with fail
  go_loopw [8, 19] (fun v i wr => ∃ k : Nat, k ≤ L.length ∧ i = .int .i64 k ∧ Own cellsStr 1 w2.heap.size 9 wr v ((L.take k).flatMap (tgtOf cs m)) ∧ Below w2.heap.size w2 wr) (fun _ i _ => L.length - (intOf i).toNat)
  case atStart => exact ⟨0, Nat.zero_le _, rfl, Own.nil, Below.refl _ _⟩
  case round =>
    obtain ⟨k, hk, rfl, hown, hbw⟩ := hrel
    by_cases hlt : k < L.length
    · obtain ⟨bL, oL, rfl, hbL, dL⟩ := (hsL.mono hbw).int_at hlt
      have hj := HLB.out L[k] (List.getElem_mem hlt)
      have HM : Hid ((L.take (k + 1)).flatMap (tgtOf cs m) = (L.take k).flatMap (tgtOf cs m) ++ tgtOf cs m L[k]) := by show _ = _; rw [List.take_succ_eq_append_getElem hlt, List.flatMap_append]; simp
      have hml : ((L.take k).flatMap (tgtOf cs m)).length ≤ k := Nat.le_trans (tgts_len _ _ _) (by rw [List.length_take]; omega)
      have hcase := lookL_bd (cs := cs) (m := m) (chR_bd hj.2).1
      have hLK : lookL cs m (chR cs L[k]).1 = lookI cs m L[k] := rfl
      rw [hLK] at hcase
      clear hLK
      generalize hzz : L[k] = z at *
      have hbx3 := hbx2.mono hbw
      have e0 := hbx3.cell 0 rfl
      have e1 := hbx3.cell 1 rfl
      have hxl := hbx3.lt
      clear hzz
      go_wp2_with fail
      refine (tLookup_any A c b cs z m _ hl (by omega) hj.2 (hT2.mono hbw) hok hlk).mono ?_
      rintro e w3 ⟨rfl, hb3⟩
      have hbw4 := below_step hbw hb3
      have hown4 := hown.mono hb3
      rcases hcase with hno | ⟨j, q, hjl, hq, hyes, hmem, hidx⟩
      · have HT : Hid (tgtOf cs m z = []) := by show _ = _; unfold tgtOf; rw [hno]; rfl
        rw [hno]
        rw [HT.out, List.append_nil] at HM
        go_wp2_with fail
        go_roundw
        case rel => exact ⟨k + 1, by omega, by go_num, by rw [HM.out]; exact hown4, hbw4⟩
        case measure => simp [intOf]; omega
      · have HT : Hid (tgtOf cs m z = [cs[j].name]) := by show _ = _; unfold tgtOf; rw [hyes, if_pos (by simp), nmAt_nat hjl]
        rw [hyes]
        rw [HT.out] at HM
        clear e0 e1
        have hbx4 := hbx3.mono hb3
        have e0 := hbx4.cell 0 rfl
        have hxl4 := hbx4.lt
        obtain ⟨b0, o, A2, c2, A3, c3, rfl, hb, d0, d1, d2, d3, hc2, hs2, hc3, hs3⟩ := (hsl.mono (below_step hbw3 hbw4)).cls_at hjl
        have hsz := hbw4.size
        go_wp2_with (at_builtin; refine wpList_pushG strsTy cellsStr_ok rfl (.tmp 32) (.tmp 39) rfl w2.heap.size _ _ rfl (Own.alloc hown4 _) cs[j].name _ _ rfl (cells_one_new _ _ _) (by unfold maxLen; omega) (by omega) ?_ ?_; (simp; omega); intro v5 w5 hown5 hb5 hg5)
        go_roundw
        case rel => exact ⟨k + 1, by omega, by go_num, by rw [HM.out]; exact hown5, (bw_alloc hbw4).trans hb5⟩
        case measure => simp [intOf]; omega
    · have HK := Lib.hid (show L.take k = L from List.take_of_length_le (by omega))
      rw [HK.out] at hown
      have hml : (L.flatMap (tgtOf cs m)).length ≤ cs.length := Nat.le_trans (tgts_len _ _ _) (by omega)
      go_wp2_with fail
      refine (sortStrings_own _ (L.flatMap (tgtOf cs m)) _ _ hown (by omega)).mono ?_
      rintro e w4 ⟨rfl, hown4, hg4⟩
      have hb4 := hbw.grown hg4 hbw.size (fun k hk => (World.ownsRow.lt hown k hk).1)
      go_wp2_with fail
      refine (compactStrings_own _ (sortS (L.flatMap (tgtOf cs m))) _ _ hown4 (by rw [sortS_len]; omega)).mono ?_
      rintro e w5 ⟨⟨v5, rfl, hown5⟩, hg5⟩
      change Own cellsStr 1 w2.heap.size 9 w5 v5 (ascS (L.flatMap (tgtOf cs m))) at hown5
      rw [← HSP.out] at hown5
      have hb5 := hb4.grown hg5 hb4.size (fun k hk => (World.ownsRow.lt hown4 k hk).1)
      go_wp2_with fail
      go_ret
      exact ⟨⟨_, rfl, hown5.weaken hbw3.size⟩, below_step hbw3 hb5⟩
end Go.Proofs.YtmhdambkchlilaaGreatDoor
