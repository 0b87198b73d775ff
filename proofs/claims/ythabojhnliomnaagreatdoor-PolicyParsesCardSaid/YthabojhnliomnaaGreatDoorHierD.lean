/-
  Chapter 10: chains of classes.
-/
import Derived.Test.YthabojhnliomnaaGreatDoorHierC
namespace Go.Proofs.YthabojhnliomnaaGreatDoor
open Go.RowKit
set_option linter.unusedVariables false

/-- From i upwards as long as no class comes again: the classes met, and whether one came again. -/
def chGo (nx : Nat → Int) : Nat → Int → List Int → List Int × Bool
  | 0, i, l => (l, decide (0 ≤ i))
  | f + 1, i, l => if 0 ≤ i ∧ i ∉ l then chGo nx f (nx i.toNat) (l ++ [i]) else (l, decide (0 ≤ i))
def chR (cs : List Cls) (i : Int) : List Int × Bool := chGo (supI cs) cs.length i []
theorem chGo_stop {nx : Nat → Int} {f : Nat} {i : Int} {l : List Int} (h : ¬ (0 ≤ i ∧ i ∉ l)) : chGo nx f i l = (l, decide (0 ≤ i)) := by
  cases f with
  | zero => rfl
  | succ f => unfold chGo; rw [if_neg h]
theorem chGo_step {nx : Nat → Int} {f : Nat} {i : Int} {l : List Int} (h : 0 ≤ i ∧ i ∉ l) : chGo nx (f + 1) i l = chGo nx f (nx i.toNat) (l ++ [i]) := by rw [chGo, if_pos h]
/-- Different numbers below n are at most n. -/
theorem nodup_le {l : List Int} (hn : l.Nodup) {n : Nat} (hb : ∀ x ∈ l, 0 ≤ x ∧ x < n) : l.length ≤ n := by
  induction n generalizing l with
  | zero =>
    cases l with
    | nil => simp
    | cons x r => have := hb x (by simp); omega
  | succ n ih =>
    have h1 : (l.erase (n : Int)).length ≤ n := ih (hn.erase _) fun x hx => by
      have hx' := List.mem_of_mem_erase hx
      have := hb x hx'
      have hne : x ≠ (n : Int) := fun e => by
        rw [e] at hx
        exact (List.Nodup.not_mem_erase hn) hx
      omega
    rw [List.length_erase] at h1
    split at h1 <;> omega
def seenF (l : List Int) (x : Int) : Option Bool := if x ∈ l then some true else none
theorem seenF_snoc (l : List Int) (y : Int) : seenF (l ++ [y]) = putF (seenF l) y true := by
  funext x
  unfold seenF putF
  by_cases h : x = y <;> simp [h]
theorem seenF_get (l : List Int) (x : Int) : (seenF l x).getD false = decide (x ∈ l) := by
  unfold seenF
  split
  · rename_i h; simp [h]
  · rename_i h; simp [h]
theorem run_makeMap_none {P : Program} (t k e : TypeId) (ht : P.underlying t = some (.map k e)) (w : World) :
    (Instr.makeMap t none).run P w = .ok (.map (some w.heap.size)) (w.alloc (.map #[] 0)) := by
  simp [Instr.makeMap]
/-- The length that a slice's value bears. -/
def slLen : Value → Nat
  | .slice _ n _ => n
  | _ => 0
theorem Own.slLen {α : Type} {cells : α → List Value} {size base : Nat} {e : TypeId} {w : World} {v : Value} {l : List α} (h : Own cells size base e w v l) : slLen v = l.length := by
  rcases h.2 with ⟨rfl, h0⟩ | ⟨g, cap, cur, rfl, _⟩
  · exact h0.symm
  · rfl
theorem intsTy : ElemTy Tryz.prog 52 3 1 8 (.int .i64 0) := ⟨Tryz.underlying52, by kernel_rfl, rfl, by omega⟩
def IntsV (w : World) (v : Value) (l : List Int) : Prop := ∃ A c, v = .slice A l.length c ∧ l.length ≤ c ∧ Sl Lay.int w A l
theorem IntsV.of_own {base : Nat} {e : TypeId} {w : World} {v : Value} {l : List Int} (h : Own cellsInt 1 base e w v l) : IntsV w v l := Own.sl (L := Lay.int) h rfl fun _ => rfl
theorem IntsV.mono {w w' : World} {v : Value} {l : List Int} (h : IntsV w v l) (hb : Below w.heap.size w w') : IntsV w' v l := by
  obtain ⟨A, c, e, hc, hs⟩ := h
  exact ⟨A, c, e, hc, hs.mono hb⟩
theorem Own.weaken {α : Type} {cells : α → List Value} {size b1 b2 : Nat} {e : TypeId} {w : World} {v : Value} {l : List α} (h : Own cells size b1 e w v l) (hb : b2 ≤ b1) : Own cells size b2 e w v l := by
  refine ⟨h.1, ?_⟩
  rcases h.2 with h2 | ⟨g, cap, cur, h1, h2, h3⟩
  · exact Or.inl h2
  · exact Or.inr ⟨g, cap, cur, h1, by omega, h3⟩
theorem own_ne {α : Type} {cells : α → List Value} {size base : Nat} {e : TypeId} {w : World} {v : Value} {l : List α} (h : Own cells size base e w v l) {b : Nat} (hb : b < base) : v.ownBlock = none ∨ v.ownBlock ≠ some b := by
  rcases h.2 with ⟨rfl, _⟩ | ⟨g, cap, cur, rfl, h1, _⟩
  · exact Or.inl rfl
  · exact Or.inr fun h => by simp [Value.ownBlock] at h; omega
theorem chR_bd {cs : List Cls} {i : Int} (hi : i < cs.length) : (∀ x ∈ (chR cs i).1, 0 ≤ x ∧ x < cs.length) ∧ (chR cs i).1.Nodup := by
  suffices ∀ f i l, i < (cs.length : Int) → (∀ x ∈ l, 0 ≤ x ∧ x < (cs.length : Int)) → l.Nodup → (∀ x ∈ (chGo (supI cs) f i l).1, 0 ≤ x ∧ x < (cs.length : Int)) ∧ (chGo (supI cs) f i l).1.Nodup from this _ _ _ hi (by simp) (by simp)
  intro f
  induction f with
  | zero => intro i l _ h1 h2; exact ⟨h1, h2⟩
  | succ f ih =>
    intro i l hi h1 h2
    by_cases h : 0 ≤ i ∧ i ∉ l
    · rw [chGo_step h]
      refine ih _ _ (supI_bd _ _).2 (fun x hx => ?_) ?_
      · rcases List.mem_append.1 hx with hx | hx
        · exact h1 x hx
        · simp at hx; subst hx; exact ⟨h.1, hi⟩
      · rw [List.nodup_append]
        refine ⟨h2, by simp, fun a ha b hb => ?_⟩
        simp at hb; subst hb
        intro e; subst e; exact h.2 ha
    · rw [chGo_stop h]; exact ⟨h1, h2⟩
theorem chR_len {cs : List Cls} {i : Int} (hi : i < cs.length) : (chR cs i).1.length ≤ cs.length := nodup_le (chR_bd hi).2 (chR_bd hi).1

set_option maxRecDepth 100000 in
set_option maxHeartbeats 1000000 in
theorem tChain_any (A : Option Addr) (c b : Nat) (cs : List Cls) (i : Int) (w : World) (hl : cs.length ≤ 8796093022208) (hi1 : -9223372036854775808 ≤ i) (hi : i < cs.length) (hT : TabV w A c b cs) (hok : Hid (NamesOk cs)) :
    Calls Tryz.prog 152 #[.agg #[.slice A cs.length c, .map (some b)], .int .i64 i] w fun e w' => (∃ v, e = .returned (.tuple #[v, .bool (chR cs i).2]) ∧ Own cellsInt 1 w.heap.size 3 w' v (chR cs i).1) ∧ Below w.heap.size w w' := by
  have hmk := run_makeMap_none (P := Tryz.prog) 193 3 4 Tryz.underlying193
  have hm0 := MapIs.made0 intBoolTy (w.alloc (.cells #[.slice A cs.length c, .map (some b)] 148)) (b := w.heap.size + 1) (by simp) (f := seenF []) (fun x => by simp [seenF])
  have hbx0 := Box.new w [.slice A cs.length c, .map (some b)] 148
  go_enter Tryz.func152, Tryz.ntmps152
  go_wp2_with fail
  go_loopw [1, 4] (fun v1 v4 wr => ∃ (j : Int) (l : List Int) (f : Nat), f + l.length = cs.length ∧ -9223372036854775808 ≤ j ∧ j < cs.length ∧ v1 = .int .i64 j ∧ chR cs i = chGo (supI cs) f j l ∧ (∀ x ∈ l, 0 ≤ x ∧ x < (cs.length : Int)) ∧ l.Nodup
      ∧ Own cellsInt 1 (w.heap.size + 1 + 1) 3 wr v4 l ∧ MapIs intBoolTy wr (w.heap.size + 1) l.length (seenF l) ∧ Box wr w.heap.size [.slice A cs.length c, .map (some b)] 148 ∧ Below w.heap.size w wr) (fun v1 v4 _ => cs.length - slLen v4)
  case atStart => exact ⟨i, [], cs.length, rfl, hi1, hi, rfl, rfl, by simp, by simp, Own.nil, hm0, hbx0.alloc _, (by repeat (first | assumption | exact Below.refl _ _ | apply bw_alloc | apply bw_drew | apply bw_drewN | apply bw_later | apply bw_step))⟩
  case round =>
    clear hmk hm0 hbx0
    obtain ⟨j, l, f, hf, hj1, hj2, rfl, HC0, HB0, hnd0, hown, hm, hbx, hbw⟩ := hrel
    have HC := Lib.hid HC0
    have HB := Lib.hid HB0
    have hnd := Lib.hid hnd0
    clear HC0 HB0 hnd0
    have HSL := Lib.hid hown.slLen
    have e0 := hbx.cell 0 rfl
    have e1 := hbx.cell 1 rfl
    have hxl := hbx.lt
    by_cases hj0 : 0 ≤ j
    · have hlk := hm.look (x := j) (okInt_of (by omega) (by omega))
      rw [seenF_get] at hlk
      by_cases hin : j ∈ l
      · have HE := Lib.hid (chGo_stop (nx := supI cs) (f := f) (i := j) (l := l) (fun h => h.2 hin))
        rw [decide_eq_true hin] at hlk
        clear hin
        have hd : decide (0 ≤ j) = true := decide_eq_true hj0
        go_wp2_with fail
        go_ret2
        exact ⟨⟨_, by rw [HC.out, HE.out, hd]; rfl, by rw [HC.out, HE.out]; exact hown.weaken (by omega)⟩, hbw⟩
      · rw [decide_eq_false hin] at hlk
        have HIN := Lib.hid hin
        clear hin
        obtain ⟨jn, rfl⟩ : ∃ jn : Nat, j = jn := ⟨j.toNat, by omega⟩
        have hjn : jn < cs.length := by omega
        have hll : l.length < cs.length := by
          rcases Nat.lt_or_ge l.length cs.length with h | h
          · exact h
          · exfalso
            have h1 : (l ++ [(jn : Int)]).length ≤ cs.length := nodup_le (by
              rw [List.nodup_append]
              refine ⟨hnd.out, by simp, fun a ha b hb => ?_⟩
              simp at hb; subst hb
              intro e; subst e; exact HIN.out ha) (fun x hx => by
              rcases List.mem_append.1 hx with hx | hx
              · exact HB.out x hx
              · simp at hx; subst hx; omega)
            rw [List.length_append] at h1
            simp at h1
            omega
        obtain ⟨f', rfl⟩ : ∃ f', f = f' + 1 := ⟨f - 1, by omega⟩
        have HE := Lib.hid (chGo_step (nx := supI cs) (f := f') (i := (jn : Int)) (l := l) ⟨by omega, HIN.out⟩)
        rw [Int.toNat_natCast] at HE
        have HSN := Lib.hid (seenF_snoc l jn)
        have hsb := supI_bd cs jn
        go_wp2_with (first | (at_mapUpdate; refine wpList_mapSet intBoolTy rfl (.tmp 16) (.tmp 17) _ rfl (w.heap.size + 1) l.length _ rfl hm (by unfold maxLen; omega) (jn : Int) true rfl rfl (okInt_of (by omega) (by omega)) trivial ?_; intro w2 hm2 hg2; have hown2 := World.ownsRow.kept hown hg2 (own_ne hown (by omega)); have hbx2 := hbx.grown hg2 (fun h => by have := Option.some.inj h; omega); have hbw2 := hbw.grown hg2 hbw.size (fun k hk => by injection hk with hk; omega)) | (at_builtin; refine wpList_pushG intsTy cellsInt_ok rfl (.tmp 18) (.tmp 20) rfl (w.heap.size + 1 + 1) _ l rfl (Own.alloc hown2 _) (jn : Int) _ _ rfl (cells_one_new _ _ _) (by unfold maxLen; omega) (by omega) ?_ ?_; (have := hm2.lt; simp; omega); intro v3 w3 hown3 hb3 hg3; have hbx3 := (hbx2.alloc _).below (by omega) hb3; have q0 := hbx3.cell 0 rfl; have q1 := hbx3.cell 1 rfl))
        have hm3 := (hm2.alloc (.cells #[.int .i64 jn] 3)).below (by omega) hb3
        have hbw3 := (bw_alloc hbw2).trans (hb3.mono (by omega))
        clear q0 q1 e0 e1 hg3 hb3 hg2 hm2 hm hown hown2 hbx hbx2 hbw2
        refine (tSuper_any A c b cs jn _ (by omega) hjn (hT.mono hbw3) hok).mono ?_
        rintro e w4 ⟨rfl, hb4⟩
        have hown4 := hown3.mono hb4
        have HSL4 := Lib.hid hown4.slLen
        go_wp2_with fail
        go_roundw
        case rel => exact ⟨supI cs jn, l ++ [(jn : Int)], f', by rw [List.length_append]; simp; omega, by omega, hsb.2, rfl, by rw [HC.out, HE.out], fun x hx => by
              rcases List.mem_append.1 hx with hx | hx
              · exact HB.out x hx
              · simp at hx; subst hx; omega, by
              rw [List.nodup_append]
              refine ⟨hnd.out, by simp, fun a ha b hb => ?_⟩
              simp at hb; subst hb
              intro e; subst e; exact HIN.out ha, hown4, by rw [HSN.out, List.length_append]; exact hm3.mono hb4, hbx3.mono hb4, below_step hbw3 hb4⟩
        case measure => rw [HSL.out, HSL4.out, List.length_append]; simp; omega
    · have HE := Lib.hid (chGo_stop (nx := supI cs) (f := f) (i := j) (l := l) (fun h => hj0 h.1))
      have hd : decide (0 ≤ j) = false := decide_eq_false hj0
      go_wp2_with fail
      go_ret2
      exact ⟨⟨_, by rw [HC.out, HE.out, hd]; rfl, by rw [HC.out, HE.out]; exact hown.weaken (by omega)⟩, hbw⟩

end Go.Proofs.YthabojhnliomnaaGreatDoor
