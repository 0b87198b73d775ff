/-
  Chapter 10: what a subclass inherits (plain), and the comparison of signatures.
-/
import Derived.Test.YtafincpkehlcfaaDoorHierQ
namespace Go.Proofs.YtafincpkehlcfaaDoor
open Go.RowKit
set_option linter.unusedVariables false

theorem Path.suffix {nx : Nat → Int} {x : Int} {R : List Int} : ∀ {p : List Int} {i : Int}, Path nx i (p ++ x :: R) → Path nx x (x :: R)
  | [], i, h => by
    have : i = x := by cases h; rfl
    subst this; exact h
  | y :: p, i, h => by
    cases h with
    | step h0 hp => exact Path.suffix hp
theorem Valid.below {cs : List Cls} (hv : Valid cs) {i : Int} (hi : i < cs.length) {pre L : List Int} (he : up cs i = pre ++ L) {x : Int} (hx : x ∈ pre) : ∃ n : Nat, ∃ hn : n < cs.length, x = n ∧ ∀ j ∈ L, j ∈ (chR cs n).1.tail := by
  obtain ⟨p1, p2, rfl⟩ := List.append_of_mem hx
  have hp := hv.path hi
  rw [he, List.append_assoc, List.cons_append] at hp
  have h1 := hp.suffix
  have hxb := (chR_bd (cs := cs) hi).1 x (by change x ∈ up cs i; rw [he]; simp)
  obtain ⟨n, rfl⟩ : ∃ n : Nat, x = n := ⟨x.toNat, by omega⟩
  have h2 := h1.det (hv.path hxb.2)
  refine ⟨n, by omega, rfl, fun j hj => ?_⟩
  change j ∈ (up cs (n : Int)).tail
  rw [← h2]
  simp [hj]
theorem fieldL_found {cs : List Cls} {n : ByteArray} : ∀ {L : List Int}, (fieldL cs n L).2.2 = true → ∃ j ∈ L, 0 ≤ fIdx cs n j
  | [], h => by simp [fieldL] at h
  | j :: r, h => by
    by_cases hj : 0 ≤ fIdx cs n j
    · exact ⟨j, by simp, hj⟩
    · rw [fieldL, if_neg hj] at h
      obtain ⟨x, hx, h2⟩ := fieldL_found h
      exact ⟨x, by simp [hx], h2⟩
theorem fieldL_skip {cs : List Cls} {n : ByteArray} {L : List Int} : ∀ {pre : List Int}, (∀ x ∈ pre, ¬ 0 ≤ fIdx cs n x) → fieldL cs n (pre ++ L) = fieldL cs n L
  | [], _ => rfl
  | x :: p, h => by
    rw [List.cons_append, fieldL, if_neg (h x (by simp))]
    exact fieldL_skip fun y hy => h y (by simp [hy])
theorem idx_get {α : Type} {p : α → Bool} {l : List α} (h : 0 ≤ idxI p l) : ∃ k, ∃ hk : k < l.length, idxI p l = k ∧ p l[k] = true := by
  unfold idxI at *
  cases hq : l.findIdx? p with
  | none => rw [hq] at h; simp at h
  | some k =>
    obtain ⟨hk, h1, _⟩ := List.findIdx?_eq_some_iff_getElem.1 hq
    exact ⟨k, hk, rfl, h1⟩
theorem Valid.inherit_field {cs : List Cls} (hv : Valid cs) {a b : ByteArray} (n : ByteArray) (hs : hasS (supersL cs a) b = true) (hok : (fieldS cs b n).2.2 = true) : fieldS cs a n = fieldS cs b n := by
  rw [hv.sub_iff] at hs
  obtain ⟨pre, he⟩ := hv.up_sub (fnd_bd cs a).2 hs
  obtain ⟨j, hj, hj2⟩ := fieldL_found hok
  unfold fieldS
  change fieldL cs n (up cs (fnd cs a)) = _
  rw [he]
  refine fieldL_skip fun x hx hx2 => ?_
  obtain ⟨m, hm, rfl, hall⟩ := hv.below (fnd_bd cs a).2 he hx
  rw [fIdx_nat hm] at hx2
  obtain ⟨k, hk, _, hkn⟩ := idx_get hx2
  have hnm : cs[m].fields[k].name = n := eqS_iff.1 hkn
  have := (hv.cls m hm).flds k hk j (hall j hj)
  rw [hnm] at this
  omega
structure SgEq (s t : Sg) : Prop where
  name : s.name = t.name
  stat : s.static = t.static
  par : s.params = t.params
  res : s.result = t.result
theorem Valid.inherit_look {cs : List Cls} (hv : Valid cs) {a b : ByteArray} (m : ByteArray) (hs : hasS (supersL cs a) b = true) {j k : Nat} (hj : j < cs.length) (hk : k < cs[j].methods.length) (hl : lookS cs b m = ((j : Int), (k : Int)))
    (hmem : (j : Int) ∈ up cs (fnd cs b)) (hidx : idxI (isSg m) cs[j].methods = k) : ∃ j' k' : Nat, ∃ hj' : j' < cs.length, ∃ hk' : k' < cs[j'].methods.length, lookS cs a m = ((j' : Int), (k' : Int)) ∧ SgEq cs[j].methods[k] cs[j'].methods[k'] := by
  rw [hv.sub_iff] at hs
  obtain ⟨pre, he⟩ := hv.up_sub (fnd_bd cs a).2 hs
  have hname : cs[j].methods[k].name = m := by
    obtain ⟨k2, hk2, e, h⟩ := idx_get (p := isSg m) (l := cs[j].methods) (by omega)
    obtain rfl : k = k2 := by omega
    exact eqS_iff.1 h
  have hLA : lookS cs a m = lookL cs m (pre ++ up cs (fnd cs b)) := by rw [← he]; rfl
  have hLB : lookL cs m (up cs (fnd cs b)) = ((j : Int), (k : Int)) := hl
  have key : ∀ q : List Int, (∀ x ∈ q, ∃ n : Nat, ∃ hn : n < cs.length, x = n ∧ ∀ j ∈ up cs (fnd cs b), j ∈ (chR cs n).1.tail) →
      ∃ j' k' : Nat, ∃ hj' : j' < cs.length, ∃ hk' : k' < cs[j'].methods.length, lookL cs m (q ++ up cs (fnd cs b)) = ((j' : Int), (k' : Int)) ∧ SgEq cs[j].methods[k] cs[j'].methods[k'] := by
    intro q
    induction q with
    | nil => exact fun _ => ⟨j, k, hj, hk, hLB, ⟨rfl, rfl, rfl, rfl⟩⟩
    | cons x q ih =>
      intro h
      obtain ⟨n, hn, rfl, hall⟩ := h x (by simp)
      by_cases hx : 0 ≤ mIdx cs m n
      · rw [mIdx_nat hn] at hx
        obtain ⟨k', hk', e, hkn⟩ := idx_get hx
        refine ⟨n, k', hn, hk', ?_, ?_⟩
        · rw [List.cons_append, lookL, mIdx_nat hn, if_pos hx, e]
        · have hnm : cs[n].methods[k'].name = m := eqS_iff.1 hkn
          have hov := (hv.cls n hn).mths k' hk' j (hall _ hmem) cs[j].methods[k] (by rw [mths_nat hj]; exact List.getElem_mem hk) (by rw [hname, hnm])
          exact ⟨by rw [hname, hnm], by rw [hov.st1, hov.st2], hov.par.symm, hov.res.symm⟩
      · rw [List.cons_append, lookL, if_neg hx]
        exact ih fun y hy => h y (by simp [hy])
  obtain ⟨j', k', hj', hk', h1, h2⟩ := key pre (fun x hx => hv.below (fnd_bd cs a).2 he hx)
  exact ⟨j', k', hj', hk', by rw [hLA]; exact h1, h2⟩

/-! ### Signatures that are equal -/
set_option maxRecDepth 100000 in
set_option maxHeartbeats 1000000 in
theorem sameSig_yes (s t : Sg) (A B : Option Addr) (cA cB : Nat) (w : World) (hl : s.params.length ≤ 8796093022208) (hm : t.params.length ≤ 8796093022208) (hp : Hid (s.params = t.params)) (hr : Hid (s.result = t.result)) (hs : Sl Lay.str w A s.params) (ht : Sl Lay.str w B t.params) :
    Calls Tryd.prog 35 #[.agg #[.string s.name, .bool s.static, .slice A s.params.length cA, .string s.result], .agg #[.string t.name, .bool t.static, .slice B t.params.length cB, .string t.result]] w fun e w' => e = .returned (.bool true) ∧ Below w.heap.size w w' := by
  have hlen : ((s.params.length : Int) != (t.params.length : Int)) = false := by rw [hp.out]; simp
  have hle : s.params.length ≤ t.params.length := by rw [hp.out]; omega
  have hres : (s.result.toList == t.result.toList) = true := eqS_iff.2 hr.out
  have hres2 : (s.result.toList != t.result.toList) = false := by simp [hr.out]
  have HEQ : Hid (∀ i (h1 : i < s.params.length) (h2 : i < t.params.length), (s.params[i].toList == t.params[i].toList) = true) := fun i h1 h2 => eqS_iff.2 (by simp only [hp.out])
  have hb0 : Below w.heap.size w ((w.alloc (.cells #[.string s.name, .bool s.static, .slice A s.params.length cA, .string s.result] 37)).alloc (.cells #[.string t.name, .bool t.static, .slice B t.params.length cB, .string t.result] 37)) := (by repeat (first | assumption | exact Below.refl _ _ | apply bw_alloc | apply bw_drew | apply bw_drewN | apply bw_later | apply bw_step))
  have b1 : Box ((w.alloc (.cells #[.string s.name, .bool s.static, .slice A s.params.length cA, .string s.result] 37)).alloc (.cells #[.string t.name, .bool t.static, .slice B t.params.length cB, .string t.result] 37)) w.heap.size [.string s.name, .bool s.static, .slice A s.params.length cA, .string s.result] 37 := (by repeat (first | (refine Box.at ?_; (simp; done)) | apply Box.drew | apply Box.alloc | assumption))
  have b2 : Box ((w.alloc (.cells #[.string s.name, .bool s.static, .slice A s.params.length cA, .string s.result] 37)).alloc (.cells #[.string t.name, .bool t.static, .slice B t.params.length cB, .string t.result] 37)) (w.heap.size + 1) [.string t.name, .bool t.static, .slice B t.params.length cB, .string t.result] 37 := (by repeat (first | (refine Box.at ?_; (simp; done)) | apply Box.drew | apply Box.alloc | assumption))
  go_enter Tryd.func35, Tryd.ntmps35
  go_wp2_with fail
  generalize ((w.alloc (.cells #[.string s.name, .bool s.static, .slice A s.params.length cA, .string s.result] 37)).alloc (.cells #[.string t.name, .bool t.static, .slice B t.params.length cB, .string t.result] 37)) = W at *
  go_loopw [5] (fun v wr => ∃ k : Nat, k ≤ s.params.length ∧ v = .int .i64 k ∧ Below W.heap.size W wr) (fun v _ => s.params.length - (intOf v).toNat)
  case atStart => exact ⟨0, Nat.zero_le _, rfl, Below.refl _ _⟩
  case round =>
    obtain ⟨k, hk, rfl, hbw⟩ := hrel
    have b3 := b1.mono hbw
    have b4 := b2.mono hbw
    have x2 := b3.cell 2 rfl
    have xl := b3.lt
    have y2 := b4.cell 2 rfl
    have yl := b4.lt
    have hbw2 := below_step hb0 hbw
    by_cases hlt : k < s.params.length
    · have hlt2 : k < t.params.length := by omega
      obtain ⟨bs, os, rfl, hbs, ds⟩ := (hs.mono hbw2).str_at hlt
      obtain ⟨bt, ot, rfl, hbt, dt⟩ := (ht.mono hbw2).str_at hlt2
      have hq := HEQ.out k hlt hlt2
      go_wp2_with fail
      refine wp_region_RW 11 (by kernel_rfl) (by kernel_rfl) ?_
      refine RW.chunk (f := 0) [0, 1, 2, 3, 4, 5, 6, 7, 8, 9, 10] (by kernel_rfl) ?_
      ((simp only [pickOps, List.filterMap, List.getElem?_toArray, List.getElem?_cons_zero, List.getElem?_cons_succ]); (repeat (go_big_quiet_step (fail))); refine wpQuiet_nil ?_)
      (refine RW.done (by kernel_rfl) (by kernel_rfl) ?_)
      go_wp2_with fail
      go_roundw
      case rel => exact ⟨k + 1, by omega, by go_num, hbw.drew⟩
      case measure => simp [intOf]; omega
    · go_wp2_with fail
      go_ret
      exact ⟨rfl, hbw2⟩
theorem sig_yes (s t : Sg) (A B : Option Addr) (cA cB : Nat) (w : World) (hl : s.params.length ≤ 8796093022208) (hm : t.params.length ≤ 8796093022208) (h : Hid (SgEq s t)) (hs : Sl Lay.str w A s.params) (ht : Sl Lay.str w B t.params) :
    Calls Tryd.prog 19 #[.agg #[.string s.name, .bool s.static, .slice A s.params.length cA, .string s.result], .agg #[.string t.name, .bool t.static, .slice B t.params.length cB, .string t.result]] w fun e w' => e = .returned (.bool true) ∧ Below w.heap.size w w' := by
  have hn : (s.name.toList == t.name.toList) = true := eqS_iff.2 h.out.name
  have hst : (s.static == t.static) = true := by rw [h.out.stat]; simp
  have hb0 : Below w.heap.size w ((w.alloc (.cells #[.string s.name, .bool s.static, .slice A s.params.length cA, .string s.result] 37)).alloc (.cells #[.string t.name, .bool t.static, .slice B t.params.length cB, .string t.result] 37)) := (by repeat (first | assumption | exact Below.refl _ _ | apply bw_alloc | apply bw_drew | apply bw_drewN | apply bw_later | apply bw_step))
  go_enter Tryd.func19, Tryd.ntmps19
  go_wp2_with fail
  refine (sameSig_yes s t A B cA cB _ hl hm h.out.par h.out.res (hs.mono hb0) (ht.mono hb0)).mono ?_
  rintro e w1 ⟨rfl, hb1⟩
  go_wp2_with fail
  go_ret
  exact ⟨rfl, below_step hb0 hb1⟩
end Go.Proofs.YtafincpkehlcfaaDoor
