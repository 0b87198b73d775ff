/-
  dom.build: the tree of dominators is made.
-/
import Derived.Test.YthlpndgfphjlkaaDomF
import Derived.Deep.RegionHeld3
import Derived.Test.YthlpndgfphjlkaaRegC
import Derived.Deep.LoopGhost
namespace Go.Proofs.Ythlpndgfphjlkaa
open Go.RowKit
set_option linter.unusedVariables false

theorem Own.ne_own {α β : Type} {c1 : α → List Value} {c2 : β → List Value} {s1 s2 b1 b2 : Nat} {e1 e2 : TypeId} {w : World} {v1 v2 : Value} {l1 : List α} {l2 : List β} (h1 : Own c1 s1 b1 e1 w v1 l1) (h2 : Own c2 s2 b2 e2 w v2 l2) (hne : e1 ≠ e2) : ∀ b, v1.ownBlock = some b → v2.ownBlock ≠ some b := fun b hb1 hb2 => by
  rcases h1.2 with ⟨h, _⟩ | ⟨g, cap, cur, h, _, hg, _⟩
  · rw [h] at hb1; cases hb1
  · rw [h] at hb1
    obtain rfl : g = b := by simpa [Value.ownBlock] using hb1
    rcases h2.2 with ⟨h', _⟩ | ⟨g', cap', cur', h', _, hg', _⟩
    · rw [h'] at hb2; cases hb2
    · rw [h'] at hb2
      obtain rfl : g' = g := by simpa [Value.ownBlock] using hb2
      rw [hg] at hg'
      injection hg' with hg'
      injection hg' with _ hg'
      exact hne hg'
theorem step_appendRun {P : Program} {ops : Array Oper} {o : Oper} {a : Act} {w w' : World} {K : Act → World → Prop} {Q : Exit → Act → World → Prop} {E : Prop}
    (hg : o.guard = none) (s x : Operand) (t : TypeId) (hop : o.op = Op.call { callee := Callee.builtin Builtin.append, args := #[s, x], argTypes := #[t, t] })
    {v u v' : Value} (hs : a.eval s = v) (hx : a.eval x = u) (hrun : (Builtin.append_ #[t, t] o.type #[v, u]).run P w = .ok v' w') (hK : K (a.put o.dst v') w') :
    if Region.wanted o (yielded ops a.tmps) = true then Oper.wp P o a w K Q else E := by
  have hw : Region.wanted o (yielded ops a.tmps) = true := by simp [Region.wanted, hg]
  rw [if_pos hw]
  unfold Oper.wp
  simp [execOp, hop, resolve, invoke, builtin, hs, hx, hrun, Result.andThen]
  exact hK
/-- The tree in memory while it is made. -/
structure TM (base b2 gt ru ro rp n : Nat) (A : Option Addr) (c : Nat) (E : List (Int × Int)) (upL ordL : List Int) (preds : List (List Nat)) (vs : List Value) (w W : World) : Prop where
  bg : Box W base [.int .i64 (n : Nat), .slice A E.length c] 28
  br : Box W (base + 1) [.slice none 0 0, .slice none 0 0, .slice none 0 0] 80
  bt : Box W gt [.slice (some ⟨ru, 0, none⟩) n n, .slice (some ⟨ro, 0, none⟩) n n, .slice (some ⟨rp, 0, none⟩) n n] 80
  ou : Own cellsInt 1 base 3 W (.slice (some ⟨ru, 0, none⟩) n n) upL
  oo : Own cellsInt 1 base 3 W (.slice (some ⟨ro, 0, none⟩) n n) ordL
  pr : PredI base b2 rp n preds vs W
  ul : upL.length = n
  ol : ordL.length = n
  ne : ru ≠ ro
  lu : ru < b2
  lo : ro < b2
  bel : Below base w W
section
variable {base b2 gt ru ro rp n : Nat} {A : Option Addr} {c : Nat} {E : List (Int × Int)} {upL ordL : List Int} {preds : List (List Nat)} {vs : List Value} {w W W' : World}
theorem TM.mono (h : TM base b2 gt ru ro rp n A c E upL ordL preds vs w W) (hb : Below W.heap.size W W') : TM base b2 gt ru ro rp n A c E upL ordL preds vs w W' :=
  ⟨h.bg.mono hb, h.br.mono hb, h.bt.mono hb, h.ou.mono hb, h.oo.mono hb, h.pr.mono hb, h.ul, h.ol, h.ne, h.lu, h.lo, h.bel.trans (hb.mono (Nat.le_trans h.pr.bb h.pr.sz))⟩
theorem TM.setU (h : TM base b2 gt ru ro rp n A c E upL ordL preds vs w W) (i : Nat) (x : Int) : TM base b2 gt ru ro rp n A c E (upL.set i x) ordL preds vs w (W.setCell ⟨ru, i, none⟩ (.int .i64 x)) := by
  have hg := grown_set W ru i (.int .i64 x)
  refine ⟨h.bg.grown hg (h.ou.ne_box h.bg (by decide)), h.br.grown hg (h.ou.ne_box h.br (by decide)), h.bt.grown hg (h.ou.ne_box h.bt (by decide)), Own.set1 (c := fun x => .int .i64 x) h.ou h.ul i x, h.oo.kept hg (fun b hb e => ?_), h.pr.kept hg (fun b hb e => ?_) (fun b hb => Or.inl ?_), by rw [List.length_set]; exact h.ul, h.ol, h.ne, h.lu, h.lo, h.bel.setCell h.ou.ge1.1 _⟩
  · injection hb with hb
    have : ro = b := by simpa [Value.ownBlock] using e
    exact h.ne (by omega)
  · injection hb with hb
    subst hb e
    exact h.ou.ne_own h.pr.row (by decide) ru rfl rfl
  · injection hb with hb
    have := h.lu
    omega
theorem TM.setO (h : TM base b2 gt ru ro rp n A c E upL ordL preds vs w W) (i : Nat) (x : Int) : TM base b2 gt ru ro rp n A c E upL (ordL.set i x) preds vs w (W.setCell ⟨ro, i, none⟩ (.int .i64 x)) := by
  have hg := grown_set W ro i (.int .i64 x)
  refine ⟨h.bg.grown hg (h.oo.ne_box h.bg (by decide)), h.br.grown hg (h.oo.ne_box h.br (by decide)), h.bt.grown hg (h.oo.ne_box h.bt (by decide)), h.ou.kept hg (fun b hb e => ?_), Own.set1 (c := fun x => .int .i64 x) h.oo h.ol i x, h.pr.kept hg (fun b hb e => ?_) (fun b hb => Or.inl ?_), h.ul, by rw [List.length_set]; exact h.ol, h.ne, h.lu, h.lo, h.bel.setCell h.oo.ge1.1 _⟩
  · injection hb with hb
    have : ru = b := by simpa [Value.ownBlock] using e
    exact h.ne (by omega)
  · injection hb with hb
    subst hb e
    exact h.oo.ne_own h.pr.row (by decide) ro rfl rfl
  · injection hb with hb
    have := h.lo
    omega
theorem TM.push {preds' : List (List Nat)} {vs' : List Value} (h : TM base b2 gt ru ro rp n A c E upL ordL preds vs w W) (t : Nat) (h1 : t < vs.length) (h2 : t < preds.length) (hg : W.grownBy W' vs[t].ownBlock) (v' : Value) (hp : PredI base b2 rp n preds' vs' (W'.setCell ⟨rp, t, none⟩ v')) :
    TM base b2 gt ru ro rp n A c E upL ordL preds' vs' w (W'.setCell ⟨rp, t, none⟩ v') := by
  have hown := h.pr.own t h1 h2
  have hge : ∀ b, vs[t].ownBlock = some b → b2 ≤ b := fun b hb => (World.ownsRow.lt hown b hb).1
  have hrow' := h.pr.row.kept_other hown (by decide) hg
  have hgs := grown_set W' rp t v'
  have hbx : ∀ {b cs ty}, Box W b cs ty → 3 ≠ ty → 38 ≠ ty → Box (W'.setCell ⟨rp, t, none⟩ v') b cs ty := fun {b cs ty} hb k1 k2 => by
    have h1 := hb.grown hg (hown.ne_box hb k1)
    exact h1.grown hgs (hrow'.ne_box h1 k2)
  have hin : ∀ {r l}, Own cellsInt 1 base 3 W (.slice (some ⟨r, 0, none⟩) n n) l → r < b2 → Own cellsInt 1 base 3 (W'.setCell ⟨rp, t, none⟩ v') (.slice (some ⟨r, 0, none⟩) n n) l := fun {r l} ho hr => by
    have h1 := ho.kept hg (fun b hb e => by
      have e2 : r = b := by simpa [Value.ownBlock] using e
      have := hge b hb
      omega)
    exact h1.kept_other hrow' (by decide) hgs
  refine ⟨hbx h.bg (by decide) (by decide), hbx h.br (by decide) (by decide), hbx h.bt (by decide) (by decide), hin h.ou h.lu, hin h.oo h.lo, hp, h.ul, h.ol, h.ne, h.lu, h.lo, ?_⟩
  have hsz := Nat.le_trans h.pr.bb h.pr.sz
  exact (h.bel.trans ((Below.refl _ _).grown hg hsz (fun k hk => Nat.le_trans h.pr.bb (hge k hk)))).setCell hrow'.ge1.1 _
end
theorem treTy : ElemTy Try.prog 78 38 1 24 (.slice none 0 0) := ⟨Try.underlying78, by kernel_rfl, rfl, by omega⟩
/-- What 'make' lays, at a block that is named. -/
theorem Own.madeAt {α : Type} {c : α → Value} {base g : Nat} {e : TypeId} (z : Value) (w : World) (n : Nat) (l : List α) (hg : w.heap.size = g) (hl : l.length = n) (hb : base ≤ g) (hm : n ≤ maxLen) (hc : l.map c = List.replicate n z) :
    Own (fun x => [c x]) 1 base e (w.alloc (.cells (madeCells #[z] n) e)) (.slice (some ⟨g, 0, none⟩) n n) l := by
  subst hg
  exact Own.made z w n l hl hb hm hc
theorem TM.start {base gt ru ro rp n : Nat} {A : Option Addr} {c : Nat} {E : List (Int × Int)} {w W : World} (hbg : Box W base [.int .i64 (n : Nat), .slice A E.length c] 28) (hbr : Box W (base + 1) [.slice none 0 0, .slice none 0 0, .slice none 0 0] 80)
    (hbt : Box W gt [.slice (some ⟨ru, 0, none⟩) n n, .slice (some ⟨ro, 0, none⟩) n n, .slice (some ⟨rp, 0, none⟩) n n] 80) (hou : Own (fun x => [Value.int .i64 x]) 1 base 3 W (.slice (some ⟨ru, 0, none⟩) n n) (List.replicate n 0)) (hoo : Own (fun x => [Value.int .i64 x]) 1 base 3 W (.slice (some ⟨ro, 0, none⟩) n n) (List.replicate n 0))
    (hrow : Own (fun v : Value => [v]) 1 base 38 W (.slice (some ⟨rp, 0, none⟩) n n) (List.replicate n (.slice none 0 0))) (hne : ru ≠ ro) (hbel : Below base w W) : TM base W.heap.size gt ru ro rp n A c E (List.replicate n 0) (List.replicate n 0) (List.replicate n []) (List.replicate n (.slice none 0 0)) w W := by
  have h1 := hou.ge1
  have h2 := hoo.ge1
  refine ⟨hbg, hbr, hbt, hou, hoo, ⟨by simp, by simp, hrow, fun i k1 k2 => ?_, fun i j hi hj hij b hb => ?_, Nat.le_refl _, by omega⟩, by simp, by simp, hne, h1.2, h2.2, hbel⟩
  · rw [List.getElem_replicate, List.getElem_replicate]
    exact Own.nil
  · rw [List.getElem_replicate] at hb
    cases hb
theorem PredI.preds {base b2 rp n : Nat} {preds : List (List Nat)} {vs : List Value} {W : World} (h : PredI base b2 rp n preds vs W) : PredS W (some ⟨rp, 0, none⟩) preds := fun v hv => by
  have h1 : v < vs.length := by rw [h.vl, ← h.pl]; exact hv
  obtain ⟨A, c, e, _, hs⟩ := (h.own v h1 hv).sl (L := Lay.int) rfl (fun x => rfl)
  rw [List.length_map] at e
  refine ⟨rp, 0, A, c, rfl, h.row.ge1.2, ?_, hs⟩
  rw [← e, Nat.zero_add]
  exact Own.at1 (c := fun v => v) h.row h.vl h1
theorem nodup_le : ∀ {n : Nat} {l : List Nat}, l.Nodup → (∀ x ∈ l, x < n) → l.length ≤ n
  | 0, l, _, h => by
    cases l with
    | nil => simp
    | cons x r => exact absurd (h x List.mem_cons_self) (by omega)
  | n + 1, l, hn, h => by
    have h1 : (l.filter (· != n)).length ≤ n := nodup_le (hn.filter _) (fun x hx => by
      rw [List.mem_filter] at hx
      have := h x hx.1
      have h3 : x ≠ n := by simpa using hx.2
      omega)
    have h2 : l.length ≤ (l.filter (· != n)).length + 1 := by
      clear h h1
      induction l with
      | nil => simp
      | cons x r ih =>
        rw [List.nodup_cons] at hn
        by_cases e : x = n
        · subst e
          have : r.filter (· != x) = r := by
            rw [List.filter_eq_self]
            intro y hy
            have : y ≠ x := fun e => hn.1 (e ▸ hy)
            simpa using this
          simp [this]
        · rw [List.filter_cons_of_pos (by simpa using e), List.length_cons, List.length_cons]
          have := ih hn.2
          omega
    omega
/-- Only the root has been met. -/
def U0 (r : Nat) : Nat → Option Nat := fun k => if k = r then some r else none
theorem tree_first {E : List (Int × Int)} {n s r : Nat} {post : List Nat} {ordL upL : List Int} (hp : PostOk E n s post) (hr : post.length = r + 1) (hul : upL.length = n) (hol : ordL.length = n) (hu : ∀ i, i < n → upL[i]? = some (-1)) (ho : ∀ v, v < n → v ∉ post → ordL[v]? = some (-1)) (hk : ∀ k (hk : k < post.length), ordL[post[k]]? = some (k : Int)) :
    TreeL n r post ordL (upL.set s (s : Int)) (U0 r) := by
  obtain ⟨hr', hrs⟩ := hp.lastAt hr
  have hsn : s < n := by rw [← hrs]; exact hp.rng _ (List.getElem_mem hr')
  refine ⟨hr, nodup_idx hp.nd, fun i hi => hp.rng _ (List.getElem_mem hi), hol, by rw [List.length_set]; exact hul, hk, fun v hv hn => ⟨ho v hv hn, ?_⟩, fun k hk2 => ?_⟩
  · rw [List.getElem?_set_ne (fun e => hn (by rw [← e, ← hrs]; exact List.getElem_mem hr'))]
    exact hu v hv
  · by_cases e : k = r
    · subst e
      refine ⟨fun h => (by simp [U0] at h), fun j hj => ?_⟩
      simp [U0] at hj
      subst hj
      refine ⟨hr', ?_⟩
      rw [hrs, List.getElem?_set_self (by omega)]
    · refine ⟨fun _ => ?_, fun j hj => (by simp [U0, e] at hj)⟩
      rw [List.getElem?_set_ne (fun e2 => e (nodup_idx hp.nd k r hk2 hr' (by rw [hrs, e2])))]
      exact hu _ (hp.rng _ (List.getElem_mem hk2))
/-- What is handed back. -/
def RetTree (E : List (Int × Int)) (n s : Nat) (w' : World) (e : Ending) : Prop :=
  ∃ AU cU AO cO AP cP post ordL upL r U, e = .returned (.agg #[.slice AU n cU, .slice AO n cO, .slice AP n cP]) ∧ TreeOk E n s post ordL upL r U ∧ Sl Lay.int w' AU upL ∧ Sl Lay.int w' AO ordL ∧ PredS w' AP (predsOf E n)
set_option maxRecDepth 100000 in
set_option maxHeartbeats 4000000 in
theorem build_any (n s : Nat) (A : Option Addr) (c : Nat) (E : List (Int × Int)) (w : World) (hG : Hid (GrOk n E)) (hsn : s < n) (hs : Sl Lay.int2 w A E) :
    Calls Try.prog 43 #[.agg #[.int .i64 (n : Nat), .slice A E.length c], .int .i64 (s : Nat)] w fun e w' => RetTree E n s w' e ∧ Below w.heap.size w w' := by
  have hnn := hG.out.nn
  have hmk1 : ∀ W, (Instr.makeSlice 38 (.int .i64 (n : Nat)) (.int .i64 (n : Nat))).run Try.prog W = .ok (.slice (some ⟨W.heap.size, 0, none⟩) n n) (W.alloc (.cells (madeCells #[.int .i64 0] n) 3)) := fun W => by
    have := intTy.make .i64 .i64 n (by omega) (by omega) W
    rw [Nat.mul_one] at this
    exact this
  have hmk2 : ∀ W, (Instr.makeSlice 78 (.int .i64 (n : Nat)) (.int .i64 (n : Nat))).run Try.prog W = .ok (.slice (some ⟨W.heap.size, 0, none⟩) n n) (W.alloc (.cells (madeCells #[.slice none 0 0] n) 38)) := fun W => by
    have := treTy.make .i64 .i64 n (by omega) (by omega) W
    rw [Nat.mul_one] at this
    exact this
  have hb0 : Below w.heap.size w ((w.alloc (.cells #[.int .i64 (n : Nat), .slice A E.length c] 28)).alloc (.cells #[.slice none 0 0, .slice none 0 0, .slice none 0 0] 80)) := (by repeat (first | assumption | exact Below.refl _ _ | apply bw_alloc | apply bw_drew | apply bw_drewN | apply bw_later | apply bw_step))
  go_enter Try.func43, Try.ntmps43
  go_upto_region 1 with fail
  generalize hW : World.alloc _ _ = W0
  have bg0 : Box W0 w.heap.size [.int .i64 (n : Nat), .slice A E.length c] 28 := by rw [← hW]; exact (Box.new _ _ _).alloc _
  have br0 : Box W0 (w.heap.size + 1) [.slice none 0 0, .slice none 0 0, .slice none 0 0] 80 := by rw [← hW]; exact Box.at (by simp)
  rw [hW] at hb0
  clear hW
  have p0 := bg0.cell 0 rfl
  have pl := bg0.lt
  have hz0 := hb0.size
  go_cut [5] (fun v5 wx => ∃ gt ru ro rp, v5 = .pointer (some ⟨gt, 0, none⟩) ∧ TM w.heap.size wx.heap.size gt ru ro rp n A c E (List.replicate n 0) (List.replicate n 0) (List.replicate n []) (List.replicate n (.slice none 0 0)) w wx)
  case first =>
    have hlm : n ≤ maxLen := by unfold maxLen; omega
    have hl1 : (List.replicate n (0 : Int)).length = n := by simp
    have hl2 : (List.replicate n (0 : Int)).map (Value.int .i64) = List.replicate n (.int .i64 0) := by simp
    have hl3 : (List.replicate n (Value.slice none 0 0)).length = n := by simp
    have hl4 : (List.replicate n (Value.slice none 0 0)).map (fun v => v) = List.replicate n (.slice none 0 0) := by simp
    go_region_held3 (fun w' => w'.cell? ⟨w.heap.size, 0, none⟩ = some (.int .i64 (n : Nat))) ((refine Box.cell (cs := [.int .i64 (n : Nat), .slice A E.length c]) (t := 28) ?_ 0 rfl; (repeat (first | exact bg0 | apply Box.drew | apply Box.alloc)))) (fail)
    all_goals go_wp2_with fail
    all_goals go_meet
    all_goals exact ⟨_, _, _, _, rfl, TM.start (by (repeat (first | exact bg0 | exact br0 | (refine Box.at ?_; (simp; done)) | apply Box.drew | apply Box.alloc))) (by (repeat (first | exact bg0 | exact br0 | (refine Box.at ?_; (simp; done)) | apply Box.drew | apply Box.alloc))) (by (repeat (first | exact bg0 | exact br0 | (refine Box.at ?_; (simp; done)) | apply Box.drew | apply Box.alloc))) (by (repeat (first | (refine Own.madeAt (c := Value.int .i64) (.int .i64 0) _ n (List.replicate n 0) ?_ hl1 ?_ hlm hl2; (focus (simp; done)); (focus omega)) | (refine Own.madeAt (c := fun v => v) (.slice none 0 0) _ n (List.replicate n (.slice none 0 0)) ?_ hl3 ?_ hlm hl4; (focus (simp; done)); (focus omega)) | refine Own.mono ?_ (bw_drew (Below.refl _ _)) | refine Own.alloc ?_ _))) (by (repeat (first | (refine Own.madeAt (c := Value.int .i64) (.int .i64 0) _ n (List.replicate n 0) ?_ hl1 ?_ hlm hl2; (focus (simp; done)); (focus omega)) | (refine Own.madeAt (c := fun v => v) (.slice none 0 0) _ n (List.replicate n (.slice none 0 0)) ?_ hl3 ?_ hlm hl4; (focus (simp; done)); (focus omega)) | refine Own.mono ?_ (bw_drew (Below.refl _ _)) | refine Own.alloc ?_ _))) (by (repeat (first | (refine Own.madeAt (c := Value.int .i64) (.int .i64 0) _ n (List.replicate n 0) ?_ hl1 ?_ hlm hl2; (focus (simp; done)); (focus omega)) | (refine Own.madeAt (c := fun v => v) (.slice none 0 0) _ n (List.replicate n (.slice none 0 0)) ?_ hl3 ?_ hlm hl4; (focus (simp; done)); (focus omega)) | refine Own.mono ?_ (bw_drew (Below.refl _ _)) | refine Own.alloc ?_ _))) (by omega) (by repeat (first | assumption | exact Below.refl _ _ | apply bw_alloc | apply bw_drew | apply bw_drewN | apply bw_later | apply bw_step))⟩
  case rest =>
  obtain ⟨gt, ru, ro, rp, rfl, hM⟩ := hcut
  clear bg0 br0 p0 pl hz0 hb0 hmk1 hmk2
  obtain ⟨b2, hb2⟩ : ∃ b2, b2 = wc.heap.size := ⟨_, rfl⟩
  rw [← hb2] at hM
  clear hb2
  have p0 := hM.bg.cell 0 rfl
  have pl := hM.bg.lt
  go_wp2_with fail
  go_loopw [28] (fun v28 wr => ∃ (k : Nat) (upL ordL : List Int), k ≤ n ∧ v28 = .int .i64 k ∧ TM w.heap.size b2 gt ru ro rp n A c E upL ordL (List.replicate n []) (List.replicate n (.slice none 0 0)) w wr ∧ Hid (∀ i, i < k → upL[i]? = some (-1) ∧ ordL[i]? = some (-1))) (fun v28 _ => n - (intOf v28).toNat)
  case atStart => exact ⟨0, _, _, Nat.zero_le _, rfl, hM, fun i h => by omega⟩
  case round =>
    clear hM p0 pl
    obtain ⟨k, upL, ordL, hk, rfl, hM, HI⟩ := hrel
    by_cases hlt : k < n
    · have t0 := hM.bt.cell 0 rfl
      have t1 := hM.bt.cell 1 rfl
      have tl := hM.bt.lt
      have bt := hM.bt
      have hul := hM.ul
      have hol := hM.ol
      have u0 := Own.at1 (c := fun x => .int .i64 x) hM.ou hul (i := k) (by omega)
      have o0 := Own.at1 (c := fun x => .int .i64 x) hM.oo hol (i := k) (by omega)
      have uf := Own.free1 (c := fun x => .int .i64 x) hM.ou hul k
      have of := Own.free1 (c := fun x => .int .i64 x) hM.oo hol k
      have ul := hM.ou.ge1.2
      have ol := hM.oo.ge1.2
      have hne := hM.ne
      have hne' := Ne.symm hM.ne
      have hgu : gt ≠ ru := fun e => hM.ou.ne_box hM.bt (by decide) (by rw [e]; rfl)
      have hgo : gt ≠ ro := fun e => hM.oo.ne_box hM.bt (by decide) (by rw [e]; rfl)
      have hkI : (k : Int) < (n : Int) := by omega
      have hM2 := (hM.setU k (-1)).setO k (-1)
      have hM3 := (hM.setO k (-1)).setU k (-1)
      have HI2 : Hid (∀ i, i < k + 1 → (upL.set k (-1))[i]? = some (-1) ∧ (ordL.set k (-1))[i]? = some (-1)) := fun i hi => by
        rw [List.getElem?_set, List.getElem?_set]
        by_cases e : k = i
        · subst e; rw [if_pos rfl, if_pos rfl, if_pos (by omega), if_pos (by omega)]; exact ⟨rfl, rfl⟩
        · rw [if_neg e, if_neg e]; exact HI.out i (by omega)
      replace hul := Lib.hid hul
      replace hol := Lib.hid hol
      clear HI
      go_upto_region 5 with fail
      go_region_held3 (fun w' => w'.cell? ⟨gt, 0, none⟩ = some (.slice (some ⟨ru, 0, none⟩) n n) ∧ w'.cell? ⟨gt, 1, none⟩ = some (.slice (some ⟨ro, 0, none⟩) n n)) ((constructor <;> (refine Box.cell (cs := [.slice (some ⟨ru, 0, none⟩) n n, .slice (some ⟨ro, 0, none⟩) n n, .slice (some ⟨rp, 0, none⟩) n n]) (t := 80) ?_ _ rfl; (repeat (first | exact bt | apply Box.drew | refine Box.setOther ?_ (Ne.symm hgu) _ | refine Box.setOther ?_ (Ne.symm hgo) _))))) (fail)
      go_wp2_with fail
      go_roundw
      case rel => exact ⟨k + 1, _, _, by omega, by go_num, hM2.mono (bw_drew (Below.refl _ _)), HI2⟩
      case measure => simp [intOf]; omega
    · obtain rfl : k = n := by omega
      have HUO : Hid (∀ i, i < k → upL[i]? = some (-1) ∧ ordL[i]? = some (-1)) := HI
      have p0 := hM.bg.cell 0 rfl
      have p1 := hM.bg.cell 1 rfl
      have pl := hM.bg.lt
      have hP0 : List.replicate k ([] : List Nat) = predsOf (E.take 0) k := (predsOf_nil k).symm
      rw [hP0] at hM
      clear hP0 HI hlt
      obtain ⟨wo, rfl⟩ : ∃ wo : World, wo = wr := ⟨_, rfl⟩
      go_wp2_with fail
      go_loopw [43] (fun v43 wr => ∃ (j : Nat) (vs : List Value), j ≤ E.length ∧ v43 = .int .i64 j ∧ TM w.heap.size b2 gt ru ro rp k A c E upL ordL (predsOf (E.take j) k) vs w wr) (fun v43 _ => E.length - (intOf v43).toNat)
      case atStart => exact ⟨0, _, Nat.zero_le _, rfl, hM⟩
      case round =>
        clear hM p0 p1 pl
        obtain ⟨j, vs, hj, rfl, hM⟩ := hrel
        have HEL := Lib.hid hG.out.len
        by_cases hjt : j < E.length
        · obtain ⟨bE, oE, rfl, hbE, d0, d1⟩ := (hs.mono hM.bel).int2_at hjt
          have hin := hG.out.rng _ (List.getElem_mem hjt)
          obtain ⟨f, hf⟩ : ∃ f : Nat, E[j].1 = (f : Int) := ⟨E[j].1.toNat, by have := hin.1; omega⟩
          obtain ⟨t, ht⟩ : ∃ t : Nat, E[j].2 = (t : Int) := ⟨E[j].2.toNat, by have := hin.2.2.1; omega⟩
          have htn : t < k := by have := hin.2.2.2; omega
          have HT : Hid (E.take (j + 1) = E.take j ++ [((f : Int), (t : Int))]) := by
            show _ = _
            rw [List.take_succ_eq_append_getElem hjt, ← hf, ← ht]
          rw [hf] at d0
          rw [ht] at d1
          have htv : t < vs.length := by rw [hM.pr.vl]; exact htn
          have htp : t < (predsOf (E.take j) k).length := by rw [predsOf_len]; exact htn
          have hpl : (predsOf (E.take j) k)[t].length ≤ 100000 := by
            rw [predsOf_at]
            have := predL_len (E.take j) t
            rw [List.length_take] at this
            have := HEL.out
            omega
          have HPR : Hid (predsOf (E.take (j + 1)) k = (predsOf (E.take j) k).set t ((predsOf (E.take j) k)[t] ++ [f])) := by
            show _ = _
            rw [HT.out, predsOf_snoc _ _ _ _ htn, predsOf_at]
          have hjI : (j : Int) < (E.length : Int) := by omega
          have htI : (t : Int) < (k : Int) := by omega
          have HJT := Lib.hid hjt
          have hjb : j < 40000 := by have := HEL.out; omega
          clear hin hf ht
          go_upto_region 10 with fail
          have be : Box (wr.alloc (.cells #[.int .i64 (f : Nat), .int .i64 (t : Nat)] 33)) wr.heap.size [.int .i64 (f : Nat), .int .i64 (t : Nat)] 33 := Box.new _ _ _
          have hM1 := hM.mono (bw_alloc (o := .cells #[.int .i64 (f : Nat), .int .i64 (t : Nat)] 33) (Below.refl _ _))
          generalize World.alloc _ _ = W1 at *
          generalize hg8 : wr.heap.size = g8 at *
          have hd1 : Below W1.heap.size W1 W1.drew := (by repeat (first | assumption | exact Below.refl _ _ | apply bw_alloc | apply bw_drew | apply bw_drewN | apply bw_later | apply bw_step))
          have hM1d := hM1.mono hd1
          have bed := be.mono hd1
          refine wp_region_RC (S := fun w' => w'.cell? ⟨gt, 2, none⟩ = some (.slice (some ⟨rp, 0, none⟩) k k) ∧ w'.cell? ⟨g8, 0, none⟩ = some (.int .i64 (f : Nat)) ∧ w'.cell? ⟨g8, 1, none⟩ = some (.int .i64 (t : Nat)) ∧ w'.cell? ⟨rp, t, none⟩ = some vs[t]) 14 (by kernel_rfl) ⟨hM1d.bt.cell 2 rfl, bed.cell 0 rfl, bed.cell 1 rfl, Own.at1 (c := fun v => v) hM1d.pr.row hM1d.pr.vl htv⟩ (by kernel_rfl) ?_
          generalize World.drew W1 = Wd at *
          clear hM1 be hd1
          have hb1 : Below Wd.heap.size Wd (Wd.alloc (.cells #[.int .i64 (f : Nat)] 3)) := (by repeat (first | assumption | exact Below.refl _ _ | apply bw_alloc | apply bw_drew | apply bw_drewN | apply bw_later | apply bw_step))
          obtain ⟨Av, mv, cv, v', w', hv, hrun, ⟨B', q', d', rfl⟩, hgr, hgb, hrl, hrf, hrc, hpr⟩ := (hM1d.pr.mono hb1).push t f htv htp hpl Wd.heap.size (by simp)
          have bt1 := hM1d.bt
          have HM2 : TM w.heap.size b2 gt ru ro rp k (some ⟨bE, oE, none⟩) c E upL ordL (predsOf (E.take (j + 1)) k) (vs.set t (.slice B' q' d')) w (w'.setCell ⟨rp, t, none⟩ (.slice B' q' d')) := (hM1d.mono hb1).push t htv htp hgr _ (by rw [HPR.out]; exact hpr)
          have r0 := Own.at1 (c := fun v => v) hM1d.pr.row hM1d.pr.vl htv
          have rl := hM1d.pr.row.ge1.2
          rw [hv] at r0 hrc hgr hgb
          have bt2 : Box w' gt _ _ := (bt1.mono hb1).grown hgr (fun e => by have h1 := (hM1d.pr.own t htv htp).ne_box bt1 (by decide); rw [hv] at h1; exact h1 e)
          have be2 : Box w' g8 _ _ := (bed.mono hb1).grown hgr (fun e => by have h1 := (hM1d.pr.own t htv htp).ne_box bed (by decide); rw [hv] at h1; exact h1 e)
          have K1 := Lib.hid (And.intro ((bt1.mono hb1).cell 2 rfl) (And.intro ((bed.mono hb1).cell 0 rfl) (And.intro ((bed.mono hb1).cell 1 rfl) (keptC r0 rl hb1))))
          have K2 := Lib.hid (And.intro (bt2.cell 2 rfl) (And.intro (be2.cell 0 rfl) (And.intro (be2.cell 1 rfl) hrc)))
          rw [hv]
          have hsome : Nonempty (Held (fun w' : World => w'.cell? ⟨gt, 2, none⟩ = some (.slice (some ⟨rp, 0, none⟩) k k) ∧ w'.cell? ⟨g8, 0, none⟩ = some (.int .i64 (f : Nat)) ∧ w'.cell? ⟨g8, 1, none⟩ = some (.int .i64 (t : Nat)) ∧ w'.cell? ⟨rp, t, none⟩ = some (.slice Av mv cv))) := ⟨⟨Wd, bt1.cell 2 rfl, bed.cell 0 rfl, bed.cell 1 rfl, r0⟩⟩
          clear bt1 r0 rl bt2 be2 hM1d bed hpr hgr hgb hv hb1
          refine RC.chunk (f := 2) [0, 1, 2, 3, 4, 5, 6, 7, 8, 9, 10, 11] (by kernel_rfl) ?_
          have hh2 : ∀ x : Held (fun w' : World => w'.cell? ⟨gt, 2, none⟩ = some (.slice (some ⟨rp, 0, none⟩) k k) ∧ w'.cell? ⟨g8, 0, none⟩ = some (.int .i64 (f : Nat)) ∧ w'.cell? ⟨g8, 1, none⟩ = some (.int .i64 (t : Nat)) ∧ w'.cell? ⟨rp, t, none⟩ = some (.slice Av mv cv)), x.W.cell? ⟨gt, 2, none⟩ = some (.slice (some ⟨rp, 0, none⟩) k k) ∧ x.W.cell? ⟨g8, 0, none⟩ = some (.int .i64 (f : Nat)) ∧ x.W.cell? ⟨g8, 1, none⟩ = some (.int .i64 (t : Nat)) ∧ x.W.cell? ⟨rp, t, none⟩ = some (.slice Av mv cv) := fun x => x.h
          have hq0 := fun x => (hh2 x).1
          have hq1 := fun x => (hh2 x).2.1
          have hq2 := fun x => (hh2 x).2.2.1
          have hq3 := fun x => (hh2 x).2.2.2
          clear hh2
          ((simp only [pickOps, List.filterMap, List.getElem?_toArray, List.getElem?_cons_zero, List.getElem?_cons_succ]); (repeat (go_big_quiet_step (fail))); refine wpQuiet_nil ?_)
          refine RC.single 12 rfl (by kernel_rfl) (by omega) ?_
          intro K hK
          go_wp2_with fail
          refine hK _ _ K1.out ?_
          refine RC.single 13 rfl (by kernel_rfl) (by omega) ?_
          clear hK K
          intro K hK
          refine wpList_appendRun rfl (.tmp 56) (.tmp 59) 38 rfl (by rfl) (by rfl) hrun ?_
          go_wp2_with fail
          refine hK _ _ K2.out ?_
          refine RC.tail (by kernel_rfl) ?_
          simp only [List.drop_succ_cons, List.drop_zero]
          clear hK K
          go_wp2_with fail
          go_roundw
          case rel => exact ⟨j + 1, _, HJT.out, by go_num, HM2⟩
          case measure => have := HJT.out; simp only [intOf]; omega
        · obtain rfl : j = E.length := by omega
          rw [List.take_length] at hM
          clear hjt hj HEL
          have p0 := hM.bg.cell 0 rfl
          have p1 := hM.bg.cell 1 rfl
          have pl := hM.bg.lt
          go_wp2_with fail
          refine (postorder_any k s _ c E _ hG hsn (hs.mono hM.bel)).mono ?_
          rintro e w5 ⟨⟨v5, post, rfl, hpo, hpk⟩, hb5⟩
          have HPK := Lib.hid hpk
          have hM5 := hM.mono hb5
          have hO5 := hpo.base_le' hM.pr.sz
          obtain ⟨A5, c5, hv5, hc5, -⟩ := hpo.sl (L := Lay.int) rfl (fun x => rfl)
          rw [List.length_map] at hv5 hc5
          subst hv5
          have hpn : post.length ≤ k := nodup_le HPK.out.nd HPK.out.rng
          obtain ⟨r, HR⟩ : ∃ r, Hid (post.length = r + 1) := by
            obtain ⟨M, hM'⟩ := HPK.out.last
            exact ⟨M.length, by show _ = _; rw [hM']; simp⟩
          have hE : Hid (∀ p ∈ E, inG k p) := hG.out.rng
          clear hpk hM hpo hb5 p0 p1 pl
          obtain ⟨wo2, rfl⟩ : ∃ wo2 : World, wo2 = wr := ⟨_, rfl⟩
          go_wp2_with fail
          go_loopw [68] (fun v68 wr => ∃ (j : Nat) (ordL : List Int), j ≤ post.length ∧ v68 = .int .i64 j ∧ TM w.heap.size b2 gt ru ro rp k A c E upL ordL (predsOf E k) vs w wr ∧ Own cellsInt 1 b2 3 wr (.slice A5 post.length c5) (post.map fun (x : Nat) => (x : Int)) ∧
            Hid (∀ v, v < k → v ∉ post.take j → ordL[v]? = some (-1)) ∧ Hid (∀ i (hi : i < post.length), i < j → ordL[post[i]]? = some (i : Int))) (fun v68 _ => post.length - (intOf v68).toNat)
          case atStart => exact ⟨0, _, Nat.zero_le _, rfl, hM5, hO5, fun v hv _ => (HUO.out v hv).2, fun i hi h => by omega⟩
          case round =>
            clear hM5 hO5
            obtain ⟨j, ordL, hj, rfl, hM, hO, HN, HI⟩ := hrel
            by_cases hlt : j < post.length
            · obtain ⟨A5', c5', hv5, -, hs5⟩ := hO.sl (L := Lay.int) rfl (fun x => rfl)
              injection hv5 with e1 e2 e3
              subst e1 e3
              obtain ⟨b5, o5, rfl, hb5, d5⟩ := hs5.int_at (i := j) (by rw [List.length_map]; exact hlt)
              simp only [List.getElem_map] at d5
              obtain ⟨x, hx⟩ : ∃ x, x = post[j] := ⟨_, rfl⟩
              have hxk : x < k := by rw [hx]; exact HPK.out.rng _ (List.getElem_mem hlt)
              rw [← hx] at d5
              have HX := Lib.hid hx
              have t1 := hM.bt.cell 1 rfl
              have tl := hM.bt.lt
              have hol := hM.ol
              obtain ⟨q0, o0⟩ : ∃ q, wr.cell? ⟨ro, x, none⟩ = some q := ⟨_, Own.at1 (c := fun x => .int .i64 x) hM.oo hol (i := x) (by omega)⟩
              have of := Own.free1 (c := fun x => .int .i64 x) hM.oo hol x
              have ol := hM.oo.ge1.2
              have hxI : (x : Int) < (k : Int) := by omega
              have hjI : (j : Int) < (post.length : Int) := by omega
              have hjb : j < 40000 := by omega
              have hM2 := hM.setO x (j : Int)
              have hO2 := hO.kept (grown_set wr ro x (.int .i64 (j : Int))) (fun b hb e => by
                have := (World.ownsRow.lt hO b e).1
                injection hb with hb
                have := hM.lo
                omega)
              have HN2 : Hid (∀ v, v < k → v ∉ post.take (j + 1) → (ordL.set x (j : Int))[v]? = some (-1)) := fun v hv hn => by
                rw [List.take_succ_eq_append_getElem hlt, List.mem_append, not_or] at hn
                rw [List.getElem?_set_ne (fun e => hn.2 (by rw [← HX.out, e]; simp))]
                exact HN.out v hv hn.1
              have HI2 : Hid (∀ i (hi : i < post.length), i < j + 1 → (ordL.set x (j : Int))[post[i]]? = some (i : Int)) := fun i hi h => by
                by_cases e : i = j
                · subst e; rw [HX.out, List.getElem?_set_self (by rw [← HX.out]; omega)]
                · rw [List.getElem?_set_ne (fun e2 => e (nodup_idx HPK.out.nd i j hi hlt (by rw [← HX.out, e2])))]
                  exact HI.out i hi (by omega)
              have HJT := Lib.hid hlt
              replace hol := Lib.hid hol
              clear hx HN HI e2
              go_wp2_with fail
              go_roundw
              case rel => exact ⟨j + 1, _, HJT.out, by go_num, hM2, hO2, HN2, HI2⟩
              case measure => have := HJT.out; simp only [intOf]; omega
            · obtain rfl : j = post.length := by omega
              obtain ⟨hr', hrs⟩ := HPK.out.lastAt HR.out
              have HTF : Hid (TreeL k r post ordL (upL.set s (s : Int)) (U0 r)) := tree_first HPK.out HR.out hM.ul hM.ol (fun i hi => (HUO.out i hi).1) (fun v hv hn => HN.out v hv (by rw [List.take_length]; exact hn)) (fun i hi => HI.out i hi hi)
              have HD0 : Hid (DomI r (prF E post) (U0 r) r r) := DomI.first (fun i => rfl)
              have t0 := hM.bt.cell 0 rfl
              have tl := hM.bt.lt
              have hul := hM.ul
              obtain ⟨q0, u0⟩ : ∃ q, wr.cell? ⟨ru, s, none⟩ = some q := ⟨_, Own.at1 (c := fun x => .int .i64 x) hM.ou hul (i := s) (by omega)⟩
              have uf := Own.free1 (c := fun x => .int .i64 x) hM.ou hul s
              have ul := hM.ou.ge1.2
              have hsI : (s : Int) < (k : Int) := by omega
              have hM2 := hM.setU s (s : Int)
              have hO2 := hO.kept (grown_set wr ru s (.int .i64 (s : Int))) (fun b hb e => by
                have := (World.ownsRow.lt hO b e).1
                injection hb with hb
                have := hM.lu
                omega)
              have HRS := Lib.hid hrs
              replace hul := Lib.hid hul
              clear HN HI hlt hj hM hO HUO hrs
              go_upto_region 19 with fail
              generalize World.setCell _ _ _ = W4 at *
              clear t0 tl u0 uf ul
              go_wp2_with fail
              go_loopg [12] (phiU r (U0 r) (r + 1) + 1) (fun g v12 wr => ∃ (b : Bool) (U : Nat → Option Nat) (upL : List Int), v12 = .bool b ∧ TM w.heap.size b2 gt ru ro rp k A c E upL ordL (predsOf E k) vs w wr ∧ Own cellsInt 1 b2 3 wr (.slice A5 post.length c5) (post.map fun (x : Nat) => (x : Int)) ∧ Hid (TreeL k r post ordL upL U) ∧
                Hid ((b = true ∧ (DomI r (prF E post) U r r ∨ DomI r (prF E post) U 0 0) ∧ phiU r U (r + 1) < g) ∨ (b = false ∧ DomI r (prF E post) U 0 0 ∧ ∀ i, i < r → ∃ c, U i = some c ∧ NearOf r U (prF E post i) c)))
              case atStart => exact ⟨true, U0 r, _, rfl, hM2, hO2, HTF, .inl ⟨rfl, .inl HD0.out, Nat.lt_succ_self _⟩⟩
              case round =>
                clear hM2 hO2 HTF HD0
                obtain ⟨b, U, upL, rfl, hM, hO, HT, HB⟩ := hrel
                have HDG : Hid (DomG r (prF E post)) := HPK.out.domG HR.out hE.out
                cases b with
                | false =>
                  have HF : Hid (DomI r (prF E post) U 0 0 ∧ ∀ i, i < r → ∃ c, U i = some c ∧ NearOf r U (prF E post i) c) := HB.out.elim (fun h => by cases h.1) (fun h => h.2)
                  clear HB
                  have HTK : Hid (TreeOk E k s post ordL (upL.set s (-1)) r U) := by
                    refine ⟨HPK.out, ?_, HF.out.1.wf, fun q d hq => HF.out.1.final HF.out.2 HDG.out hq⟩
                    have := HT.out.fin (fun q hq => by obtain ⟨c, hc, _⟩ := HF.out.2 q hq; rw [hc]; rfl) hr'
                    rw [HRS.out] at this
                    exact this
                  have t0 := hM.bt.cell 0 rfl
                  have tl := hM.bt.lt
                  obtain ⟨q0, u0⟩ : ∃ q, wr.cell? ⟨ru, s, none⟩ = some q := ⟨_, Own.at1 (c := fun x => .int .i64 x) hM.ou hM.ul (i := s) (by rw [hM.ul]; exact hsn)⟩
                  have uf := Own.free1 (c := fun x => .int .i64 x) hM.ou hM.ul s
                  have ul := hM.ou.ge1.2
                  have hM2 := hM.setU s (-1)
                  clear HF HT hM hO
                  go_upto_region 31 with fail
                  clear t0 tl u0 uf ul
                  generalize World.setCell _ _ _ = W7 at *
                  have t0 := hM2.bt.cell 0 rfl
                  have t1 := hM2.bt.cell 1 rfl
                  have t2 := hM2.bt.cell 2 rfl
                  have tl := hM2.bt.lt
                  have y0 := hM2.br.cell 0 rfl
                  have y1 := hM2.br.cell 1 rfl
                  have y2 := hM2.br.cell 2 rfl
                  have yl := hM2.br.lt
                  have yf := fun i => hM2.br.free i
                  obtain ⟨br8, hg8⟩ := hM2.br.store3 (.slice (some ⟨ru, 0, none⟩) k k) (.slice (some ⟨ro, 0, none⟩) k k) (.slice (some ⟨rp, 0, none⟩) k k)
                  have z0 := br8.cell 0 rfl
                  have z1 := br8.cell 1 rfl
                  have z2 := br8.cell 2 rfl
                  have hsz := Nat.le_trans hM2.pr.bb hM2.pr.sz
                  have hbel := hM2.bel.grown hg8 hsz (fun b hb => by injection hb with hb; omega)
                  have ou8 := hM2.ou.kept_box hM2.br (by decide) hg8
                  have oo8 := hM2.oo.kept_box hM2.br (by decide) hg8
                  have pr8 := hM2.pr.kept hg8 (fun b hb e => by
                    injection hb with hb
                    have := hM2.pr.row.ne_box hM2.br (by decide)
                    exact this (by rw [hb, e]; rfl)) (fun b hb => by
                    injection hb with hb
                    subst hb
                    exact Or.inr ⟨_, _, _, hM2.br, by decide⟩)
                  obtain ⟨A8, c8, e8, -, hs8⟩ := ou8.sl (L := Lay.int) rfl (fun x => rfl)
                  obtain ⟨A9, c9, e9, -, hs9⟩ := oo8.sl (L := Lay.int) rfl (fun x => rfl)
                  rw [hM2.ul] at e8
                  rw [hM2.ol] at e9
                  injection e8 with e81 e82 e83
                  injection e9 with e91 e92 e93
                  subst e81 e91
                  clear e82 e83 e92 e93
                  have HPS := Lib.hid pr8.preds
                  have HS8 := Lib.hid hs8
                  have HS9 := Lib.hid hs9
                  clear hM2 ou8 oo8 pr8 hs8 hs9 hg8 br8
                  go_wp2_with fail
                  refine bodyPost_ret (v := .agg #[.slice (some ⟨ru, 0, none⟩) k k, .slice (some ⟨ro, 0, none⟩) k k, .slice (some ⟨rp, 0, none⟩) k k]) (by simp [results, Try.results43, go_sem, z0, z1, z2]) rfl ⟨⟨_, _, _, _, _, _, _, _, _, _, _, rfl, HTK.out, HS8.out, HS9.out, HPS.out⟩, hbel⟩
                | true =>
                  have HF : Hid ((DomI r (prF E post) U r r ∨ DomI r (prF E post) U 0 0) ∧ phiU r U (r + 1) < gk) := HB.out.elim (fun h => h.2) (fun h => by cases h.1)
                  clear HB
                  obtain ⟨a0, HS⟩ : ∃ a, Hid (DomI r (prF E post) U a r) := by
                    rcases HF.out.1 with h | h
                    · exact ⟨r, h⟩
                    · exact ⟨0, h.start r (Nat.le_refl _)⟩
                  obtain ⟨wo3, rfl⟩ : ∃ wo3 : World, wo3 = wr := ⟨_, rfl⟩
                  have HRI : Hid ((post.length : Int) - 2 = (r : Int) - 1) := by show _ = _; have := HR.out; omega
                  have hrk : r < 8192 := by have := HR.out; omega
                  go_wp2_with fail
                  go_loopw [12, 13] (fun v12 v13 wr => ∃ (ch : Bool) (V : Nat → Option Nat) (upL : List Int) (j a : Nat), v12 = .bool ch ∧ v13 = .int .i64 ((j : Int) - 1) ∧ j ≤ r ∧ TM w.heap.size b2 gt ru ro rp k A c E upL ordL (predsOf E k) vs w wr ∧ Own cellsInt 1 b2 3 wr (.slice A5 post.length c5) (post.map fun (x : Nat) => (x : Int)) ∧ Hid (TreeL k r post ordL upL V) ∧
                    Hid (DomI r (prF E post) V a j) ∧ Hid ((ch = true ∧ phiU r V (r + 1) < phiU r U (r + 1)) ∨ (ch = false ∧ V = U ∧ ∀ i, j ≤ i → i < r → ∃ c, U i = some c ∧ NearOf r U (prF E post i) c))) (fun _ v13 _ => (intOf v13 + 1).toNat)
                  case atStart => exact ⟨false, U, upL, r, a0, rfl, by rw [HRI.out], Nat.le_refl _, hM, hO, HT, HS, .inr ⟨rfl, rfl, fun i h1 h2 => by omega⟩⟩
                  case round =>
                    clear hM hO HT HS
                    clear upL a0
                    obtain ⟨ch, V, upL, j, a, rfl, rfl, hj, hM, hO, HT, HD, HC⟩ := hrel
                    cases j with
                    | zero =>
                      have HD0 : Hid (DomI r (prF E post) V 0 0) := by
                        have h1 := HD.out
                        have h2 : a = 0 := by rcases h1.ab with h | h <;> exact h
                        rw [h2] at h1
                        exact h1
                      clear HD
                      simp only [Int.ofNat_zero, Int.zero_sub]
                      go_wp2_with fail
                      go_roundg (phiU r U (r + 1))
                      case measure => exact HF.out.2
                      case rel =>
                        refine ⟨ch, V, upL, rfl, hM, hO, HT, ?_⟩
                        rcases HC.out with ⟨h1, h2⟩ | ⟨h1, h2, h3⟩
                        · exact .inl ⟨h1, .inr HD0.out, h2⟩
                        · exact .inr ⟨h1, HD0.out, by rw [h2]; exact fun i hi => h3 i (Nat.zero_le _) hi⟩
                    | succ u =>
                      have hv : ((u + 1 : Nat) : Int) - 1 = (u : Int) := by omega
                      rw [hv]
                      clear hv
                      have hup : u < post.length := by have := HR.out; omega
                      obtain ⟨A5', c5', hv5, -, hs5⟩ := hO.sl (L := Lay.int) rfl (fun x => rfl)
                      injection hv5 with e1 e2 e3
                      subst e1 e3
                      obtain ⟨b5, o5, rfl, hb5, d5⟩ := hs5.int_at (i := u) (by rw [List.length_map]; exact hup)
                      simp only [List.getElem_map] at d5
                      obtain ⟨x, hx⟩ : ∃ x, x = post[u] := ⟨_, rfl⟩
                      have hxk : x < k := by rw [hx]; exact HPK.out.rng _ (List.getElem_mem hup)
                      rw [← hx] at d5
                      have HX := Lib.hid hx
                      have huI : (u : Int) < (post.length : Int) := by omega
                      have hu0 : (0 : Int) ≤ (u : Int) := by omega
                      have hub : u < 40000 := by omega
                      have t0 := hM.bt.cell 0 rfl
                      have t1 := hM.bt.cell 1 rfl
                      have t2 := hM.bt.cell 2 rfl
                      have tl := hM.bt.lt
                      have HUL := Lib.hid hM.ul
                      have HOL := Lib.hid hM.ol
                      obtain ⟨AU', cU', hvu, -, hsu⟩ := hM.ou.sl (L := Lay.int) rfl (fun x => rfl)
                      obtain ⟨AO', cO', hvo, -, hso⟩ := hM.oo.sl (L := Lay.int) rfl (fun x => rfl)
                      rw [hM.ul] at hvu
                      rw [hM.ol] at hvo
                      injection hvu with g1 g2 g3
                      injection hvo with k1 k2 k3
                      subst g1 k1
                      have hpu : (predsOf E k)[x]? = some (predL E x) := by rw [List.getElem?_eq_getElem (by rw [predsOf_len]; exact hxk), predsOf_at]
                      have hnear := nearest_any k r post ordL upL (predsOf E k) V (some ⟨ru, 0, none⟩) (some ⟨ro, 0, none⟩) (some ⟨rp, 0, none⟩) k k k x wr (by omega) HT HD.out.wf hxk (predsOf_len E k) (fun h p hp => by
                        rw [predsOf_at] at hp
                        have := (hE.out _ ((mem_predL hE.out).1 hp)).2.1
                        dsimp only at this
                        omega) (fun h => by
                        rw [predsOf_at]
                        have h1 := predL_len E x
                        have h2 := hG.out.len
                        omega) hsu hso hM.pr.preds
                      rw [HUL.out, HOL.out, predsOf_len, show (predsOf E k).getD x [] = predL E x by rw [List.getD_eq_getElem?_getD, hpu]; rfl, show prL post (predL E x) = prF E post u by rw [prF_at E hup, ← hx]] at hnear
                      have HNE := Lib.hid hnear
                      clear hnear hpu hx e2 g2 g3 k2 k3 hsu hso hs5
                      go_wp2_with fail
                      refine HNE.out.mono ?_
                      rintro e w6 ⟨⟨vn, rfl, hn⟩, hb6⟩
                      have hM6 := hM.mono hb6
                      have hO6 := hO.mono hb6
                      clear HNE hM hO t0 t1 t2 tl hb5 d5 hb6
                      cases hn with
                      | none h =>
                        exfalso
                        obtain ⟨f, hf, huf⟩ := HDG.out.fwd u hj
                        refine h f hf ((HD.out.al f).2 ⟨?_, HDG.out.rng u f hf⟩)
                        rcases HD.out.ab with h | h <;> omega
                      | @some cc hc hca hnr =>
                      obtain ⟨huc, hcr, hle, hnx⟩ := HD.out.next HDG.out hnr
                      have HNX := Lib.hid hnx
                      have HNR := Lib.hid hnr
                      have HLE := Lib.hid hle
                      have hpc : post[cc] < k := HPK.out.rng _ (List.getElem_mem hc)
                      have t0 := hM6.bt.cell 0 rfl
                      have tl := hM6.bt.lt
                      have hxl : x < upL.length := by rw [HUL.out]; exact hxk
                      have u0 := Own.at1 (c := fun x => .int .i64 x) hM6.ou HUL.out hxl
                      obtain ⟨ux, hux⟩ : ∃ ux, ux = upL[x] := ⟨_, rfl⟩
                      rw [← hux] at u0
                      have HUX : Hid (upL[post[u]]? = some ux) := by show _ = _; rw [← HX.out, hux]; exact List.getElem?_eq_getElem hxl
                      have uf := Own.free1 (c := fun x => .int .i64 x) hM6.ou HUL.out x
                      have ul := hM6.ou.ge1.2
                      have hxI : (x : Int) < (k : Int) := by omega
                      clear hnx hnr hle hux
                      by_cases hvc : V u = some cc
                      · have hue : ux = (post[cc] : Int) := by
                          obtain ⟨_, h2⟩ := (HT.out.up u hup).2 cc hvc
                          rw [HUX.out] at h2
                          injection h2
                        have te : ((post[cc] : Int) != ux) = false := by rw [hue]; simp
                        have hupd : upd V u cc = V := by
                          funext z
                          by_cases e : z = u
                          · subst e; rw [upd_self, hvc]
                          · rw [upd_ne e]
                        have HN2 : Hid (DomI r (prF E post) V (if a = 0 then 0 else u) u) := by
                          have := HNX.out
                          rw [hupd] at this
                          exact this
                        have HC2 : Hid ((ch = true ∧ phiU r V (r + 1) < phiU r U (r + 1)) ∨ (ch = false ∧ V = U ∧ ∀ i, u ≤ i → i < r → ∃ c, U i = some c ∧ NearOf r U (prF E post i) c)) := by
                          rcases HC.out with h | ⟨h1, h2, h3⟩
                          · exact .inl h
                          · refine .inr ⟨h1, h2, fun i hi hir => ?_⟩
                            by_cases e : i = u
                            · subst e; exact ⟨cc, h2 ▸ hvc, h2 ▸ HNR.out⟩
                            · exact h3 i (by omega) hir
                        clear hue hupd hvc
                        go_wp2_with fail
                        go_roundw
                        case rel => exact ⟨ch, V, upL, u, _, rfl, rfl, by omega, hM6, hO6, HT, HN2, HC2⟩
                        case measure => simp only [intOf]; omega
                      · have hue : ux ≠ (post[cc] : Int) := by
                          cases hvu : V u with
                          | none =>
                            have h2 := (HT.out.up u hup).1 hvu
                            rw [HUX.out] at h2
                            injection h2 with h2
                            omega
                          | some jj =>
                            obtain ⟨hj2, h2⟩ := (HT.out.up u hup).2 jj hvu
                            rw [HUX.out] at h2
                            injection h2 with h2
                            intro e
                            have : jj = cc := nodup_idx HPK.out.nd jj cc hj2 hc (by omega)
                            exact hvc (by rw [hvu, this])
                        have te : ((post[cc] : Int) != ux) = true := by rw [bne_iff_ne]; exact Ne.symm hue
                        have HPHI : Hid (phiU r (upd V u cc) (r + 1) < phiU r U (r + 1)) := by
                          show _ < _
                          have h1 : wtU r (some cc) < wtU r (V u) := by
                            cases hvu : V u with
                            | none => simp only [wtU]; omega
                            | some jj =>
                              have h2 := HLE.out jj hvu
                              have h3 : jj ≠ cc := fun e => hvc (by rw [hvu, e])
                              simp only [wtU]
                              omega
                          have h2 := (phiU_upd h1 (r + 1)).2 (by omega)
                          rcases HC.out with ⟨_, h⟩ | ⟨_, h, _⟩
                          · omega
                          · rw [h] at h2; rw [h]; exact h2
                        have HT2 : Hid (TreeL k r post ordL (upL.set x (post[cc] : Int)) (upd V u cc)) := by
                          have := HT.out.upd hup hc
                          rw [← HX.out] at this
                          exact this
                        have hM7 := hM6.setU x (post[cc] : Int)
                        have hO7 := hO6.kept (grown_set w6 ru x (.int .i64 (post[cc] : Int))) (fun b hb e => by
                          have := (World.ownsRow.lt hO6 b e).1
                          injection hb with hb
                          have := hM6.lu
                          omega)
                        clear hue hvc hM6 hO6
                        go_wp2_with fail
                        go_roundw
                        case rel => exact ⟨true, upd V u cc, _, u, _, rfl, rfl, by omega, hM7, hO7, HT2, HNX, .inl ⟨rfl, HPHI.out⟩⟩
                        case measure => simp only [intOf]; omega
end Go.Proofs.Ythlpndgfphjlkaa
