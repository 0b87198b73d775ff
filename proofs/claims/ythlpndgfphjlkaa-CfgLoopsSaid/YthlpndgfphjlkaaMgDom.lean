/-
  Joined (wip/merge.py): DomA, DomB, DomC, DomD.
-/
import Derived.Test.YthlpndgfphjlkaaLib
import Derived.Test.YthlpndgfphjlkaaCfgO

namespace Go.Proofs.Ythlpndgfphjlkaa
set_option linter.unusedVariables false

/-- d lies on the chain of k. -/
inductive Up (r : Nat) (U : Nat → Option Nat) : Nat → Nat → Prop
  | refl (k : Nat) : Up r U k k
  | step {k j d : Nat} : k ≠ r → U k = some j → Up r U j d → Up r U k d
/-- A path from the root to k that avoids d. -/
inductive Av (r : Nat) (pr : Nat → List Nat) (d : Nat) : Nat → Prop
  | root : r ≠ d → Av r pr d r
  | step {p k : Nat} : Av r pr d p → p ∈ pr k → k ≠ d → Av r pr d k
/-- A path from d to k through nodes of no higher order. -/
inductive Low (pr : Nat → List Nat) (d : Nat) : Nat → Prop
  | refl : Low pr d d
  | step {p k : Nat} : Low pr d p → p ∈ pr k → k ≤ d → Low pr d k
structure UpWf (r : Nat) (U : Nat → Option Nat) : Prop where
  root : U r = some r
  gt : ∀ k j, k ≠ r → U k = some j → k < j ∧ j ≤ r
  cl : ∀ k j, U k = some j → (U j).isSome
section
variable {r : Nat} {U : Nat → Option Nat} {pr : Nat → List Nat}
theorem Up.trans {a b d : Nat} (h : Up r U a b) (h2 : Up r U b d) : Up r U a d := by
  induction h with
  | refl k => exact h2
  | step h1 h3 _ ih => exact .step h1 h3 (ih h2)
theorem Up.le (hw : UpWf r U) {k d : Nat} (h : Up r U k d) : k ≤ d := by
  induction h with
  | refl k => exact Nat.le_refl _
  | step h1 h2 _ ih => have := (hw.gt _ _ h1 h2).1; omega
theorem Up.inv {k d : Nat} (h : Up r U k d) (hne : k ≠ d) : k ≠ r ∧ ∃ j, U k = some j ∧ Up r U j d := by
  cases h with
  | refl => exact absurd rfl hne
  | step h1 h2 h3 => exact ⟨h1, _, h2, h3⟩
theorem Up.linear {k a b : Nat} (h : Up r U k a) (h2 : Up r U k b) : Up r U a b ∨ Up r U b a := by
  induction h with
  | refl k => exact Or.inl h2
  | step h1 h3 h4 ih =>
    rename_i k j d
    by_cases hkb : k = b
    · subst hkb; exact Or.inr (.step h1 h3 h4)
    · obtain ⟨_, j', e, h5⟩ := h2.inv hkb
      rw [h3] at e
      obtain rfl := Option.some.inj e
      exact ih h5
theorem Up.alive (hw : UpWf r U) {k d : Nat} (h : Up r U k d) (hk : (U k).isSome) : (U d).isSome := by
  induction h with
  | refl k => exact hk
  | step h1 h2 _ ih => exact ih (hw.cl _ _ h2)
theorem Up.ler (hw : UpWf r U) {k d : Nat} (h : Up r U k d) (hk : k ≤ r) : d ≤ r := by
  induction h with
  | refl k => exact hk
  | step h1 h2 _ ih => exact ih (hw.gt _ _ h1 h2).2
theorem Up.of_root {d : Nat} (h : Up r U r d) : d = r := by
  cases h with
  | refl => rfl
  | step h1 _ _ => exact absurd rfl h1
theorem Up.to_root (hw : UpWf r U) : ∀ (n k : Nat), r - k ≤ n → k ≤ r → (U k).isSome → Up r U k r
  | n, k, hn, hk, ha => by
    by_cases h : k = r
    · subst h; exact .refl _
    · obtain ⟨j, hj⟩ := Option.isSome_iff_exists.1 ha
      have h1 := hw.gt _ _ h hj
      match n, hn with
      | 0, hn => omega
      | n + 1, hn => exact .step h hj (Up.to_root hw n j (by omega) h1.2 (hw.cl _ _ hj))
/-- The nearest common member of two chains. -/
structure MeetOf (r : Nat) (U : Nat → Option Nat) (a b c : Nat) : Prop where
  l : Up r U a c
  r' : Up r U b c
  all : ∀ d, Up r U a d → Up r U b d → Up r U c d
/-- The nearest common member of the chains of the predecessors that have been met. -/
structure NearOf (r : Nat) (U : Nat → Option Nat) (l : List Nat) (c : Nat) : Prop where
  up : ∀ p ∈ l, (U p).isSome → Up r U p c
  all : ∀ d, (∀ p ∈ l, (U p).isSome → Up r U p d) → Up r U c d
  some : ∃ p ∈ l, (U p).isSome
theorem NearOf.one {p : Nat} (h : (U p).isSome) {l : List Nat} (hl : ∀ q ∈ l, ¬ (U q).isSome) : NearOf r U (l ++ [p]) p :=
  ⟨fun q hq hs => by
    rcases List.mem_append.1 hq with hq | hq
    · exact absurd hs (hl q hq)
    · simp at hq; subst hq; exact .refl _,
   fun d hd => hd p (by simp) h, ⟨p, by simp, h⟩⟩
theorem NearOf.dead {p c : Nat} (h : ¬ (U p).isSome) {l : List Nat} (hl : NearOf r U l c) : NearOf r U (l ++ [p]) c :=
  ⟨fun q hq hs => by
    rcases List.mem_append.1 hq with hq | hq
    · exact hl.up q hq hs
    · simp at hq; subst hq; exact absurd hs h,
   fun d hd => hl.all d (fun q hq hs => hd q (by simp [hq]) hs), by
    obtain ⟨q, hq, hs⟩ := hl.some
    exact ⟨q, by simp [hq], hs⟩⟩
theorem NearOf.meet {p a c : Nat} (h : (U p).isSome) {l : List Nat} (hl : NearOf r U l a) (hm : MeetOf r U a p c) : NearOf r U (l ++ [p]) c :=
  ⟨fun q hq hs => by
    rcases List.mem_append.1 hq with hq | hq
    · exact (hl.up q hq hs).trans hm.l
    · simp at hq; subst hq; exact hm.r',
   fun d hd => hm.all d (hl.all d (fun q hq hs => hd q (by simp [hq]) hs)) (hd p (by simp) h), by
    obtain ⟨q, hq, hs⟩ := hl.some
    exact ⟨q, by simp [hq], hs⟩⟩
/-- What one knows of the graph, its nodes named by their order. -/
structure DomG (r : Nat) (pr : Nat → List Nat) : Prop where
  rng : ∀ k, ∀ p ∈ pr k, p ≤ r
  fwd : ∀ k, k < r → ∃ f ∈ pr k, k < f
/-- Within a pass: the nodes of order below b are yet to be worked on; those from a on have been met. -/
structure DomI (r : Nat) (pr : Nat → List Nat) (U : Nat → Option Nat) (a b : Nat) : Prop where
  wf : UpWf r U
  al : ∀ k, (U k).isSome = true ↔ a ≤ k ∧ k ≤ r
  ab : a = 0 ∨ a = b
  br : b ≤ r
  fw : ∀ k, k < r → (U k).isSome → ∀ d, Up r U k d → d ≠ k → (k < b → d < b) → ∀ f ∈ pr k, k < f → Up r U f d
  me : ∀ k, k < r → (U k).isSome → ∀ d, (∀ p ∈ pr k, (U p).isSome → Up r U p d) → Up r U k d
  anc : ∀ k d, (U k).isSome → Up r U k d → Low pr d k
  dom : ∀ k d, (U k).isSome → ¬ Av r pr d k → Up r U k d
def upd (U : Nat → Option Nat) (u c : Nat) : Nat → Option Nat := fun k => if k = u then some c else U k
theorem upd_self {u c : Nat} : upd U u c u = some c := if_pos rfl
theorem upd_ne {u c k : Nat} (h : k ≠ u) : upd U u c k = U k := if_neg h
/-- A new pass. -/
theorem DomI.start (h : DomI r pr U 0 0) (b : Nat) (hb : b ≤ r) : DomI r pr U 0 b :=
  ⟨h.wf, h.al, Or.inl rfl, hb, fun k hk ha d hd hne _ f hf hkf => h.fw k hk ha d hd hne (fun h => by omega) f hf hkf, h.me, h.anc, h.dom⟩
/-- Only the root has been met. -/
theorem DomI.first (hU : ∀ k, U k = if k = r then some r else none) : DomI r pr U r r := by
  have hs : ∀ k, (U k).isSome = true ↔ k = r := fun k => by rw [hU]; split <;> simp_all
  refine ⟨⟨by rw [hU, if_pos rfl], fun k j hk hj => ?_, fun k j hj => ?_⟩, fun k => by rw [hs]; omega, Or.inr rfl, Nat.le_refl _, fun k hk ha => ?_, fun k hk ha => ?_, fun k d ha hd => ?_, fun k d ha hd => ?_⟩
  · rw [hU, if_neg hk] at hj; cases hj
  · rw [hU] at hj
    split at hj
    · obtain rfl := Option.some.inj hj; exact (hs _).2 rfl
    · cases hj
  · have := (hs k).1 ha; omega
  · have := (hs k).1 ha; omega
  · obtain rfl := (hs k).1 ha
    obtain rfl := hd.of_root
    exact .refl
  · obtain rfl := (hs k).1 ha
    by_cases h : d = k
    · subst h; exact .refl _
    · exact absurd (.root (fun e => h e.symm)) hd
section
variable {a b u c : Nat}
theorem upd_above (hw : UpWf r U) {k d : Nat} (hk : u < k) : Up r (upd U u c) k d ↔ Up r U k d := by
  constructor
  · intro h
    induction h with
    | refl k => exact .refl _
    | step h1 h2 _ ih =>
      rw [upd_ne (by omega)] at h2
      exact .step h1 h2 (ih (by have := (hw.gt _ _ h1 h2).1; omega))
  · intro h
    induction h with
    | refl k => exact .refl _
    | step h1 h2 _ ih => exact .step h1 ((upd_ne (by omega)).trans h2) (ih (by have := (hw.gt _ _ h1 h2).1; omega))
theorem upd_low (hw : UpWf r U) {k d : Nat} (hd : d ≤ u) (h : Up r U k d) : Up r (upd U u c) k d := by
  induction h with
  | refl k => exact .refl _
  | step h1 h2 h3 ih =>
    have e1 := (hw.gt _ _ h1 h2).1
    have e2 := h3.le hw
    exact .step h1 ((upd_ne (by omega)).trans h2) (ih hd)
theorem upd_u (hw : UpWf r U) (hu : u ≠ r) (hc : u < c) {d : Nat} : Up r (upd U u c) u d ↔ d = u ∨ Up r U c d := by
  constructor
  · intro h
    by_cases e : u = d
    · exact Or.inl e.symm
    · obtain ⟨_, j, h2, h3⟩ := h.inv e
      rw [upd_self] at h2
      obtain rfl := Option.some.inj h2
      exact Or.inr ((upd_above hw hc).1 h3)
  · rintro (rfl | h)
    · exact .refl _
    · exact .step hu upd_self ((upd_above hw hc).2 h)
theorem upd_shrink (hw : UpWf r U) (hu : u ≠ r) (hc : u < c) (huc : Up r U u c) {k d : Nat} (h : Up r (upd U u c) k d) : Up r U k d := by
  induction h with
  | refl k => exact .refl _
  | step h1 h2 h3 ih =>
    rename_i k j d
    by_cases e : k = u
    · subst e
      rw [upd_self] at h2
      obtain rfl := Option.some.inj h2
      exact huc.trans ih
    · rw [upd_ne e] at h2
      exact .step h1 h2 ih
/-- One node is worked on. -/
theorem DomI.next (hg : DomG r pr) (h : DomI r pr U a (u + 1)) (hn : NearOf r U (pr u) c) : u < c ∧ c ≤ r ∧ (∀ j, U u = some j → j ≤ c) ∧ DomI r pr (upd U u c) (if a = 0 then 0 else u) u := by
  have hur : u < r := h.br
  obtain ⟨f, hf, huf⟩ := hg.fwd u hur
  have hfr := hg.rng u f hf
  have hfa : (U f).isSome = true := (h.al f).2 ⟨by rcases h.ab with e | e <;> omega, hfr⟩
  have hfc := hn.up f hf hfa
  have hw := h.wf
  have huc : u < c := by have := hfc.le hw; omega
  have hcr : c ≤ r := hfc.ler hw hfr
  have hca : (U c).isSome = true := hfc.alive hw hfa
  have hne : u ≠ r := by omega
  -- if u has been met before
  have hM : (U u).isSome = true → Up r U u c := fun hua => h.me u hur hua c hn.up
  have hj : ∀ j, U u = some j → j ≤ c := fun j hj => by
    obtain ⟨_, j', e, h1⟩ := (hM (by rw [hj]; rfl)).inv (by omega)
    rw [hj] at e
    obtain rfl := Option.some.inj e
    exact h1.le hw
  -- who has been met
  have hlow : ∀ k, k < u → (U k).isSome = true → a = 0 ∧ (U u).isSome = true := fun k hk ha => by
    have h1 := (h.al k).1 ha
    have h0 : a = 0 := by rcases h.ab with e | e <;> omega
    exact ⟨h0, (h.al u).2 ⟨by omega, by omega⟩⟩
  have hal : ∀ k, (upd U u c k).isSome = true ↔ (k = u ∨ (U k).isSome = true) := fun k => by
    by_cases e : k = u
    · subst e; rw [upd_self]; simp
    · rw [upd_ne e]; simp [e]
  have hshr : ∀ {k d : Nat}, (U k).isSome = true → Up r (upd U u c) k d → Up r U k d := fun {k d} ha hk => by
    rcases Nat.lt_trichotomy k u with e | e | e
    · exact upd_shrink hw hne huc (hM (hlow k e ha).2) hk
    · subst e; exact upd_shrink hw hne huc (hM ha) hk
    · exact (upd_above hw e).1 hk
  -- a chain that passes u
  have hpass : ∀ k d, k < u → (U k).isSome = true → Up r U k d → u < d → ¬ Up r (upd U u c) k d → Up r U k u := fun k d hk ha hkd hud hno => by
    induction hkd with
    | refl k => omega
    | step h1 h2 h3 ih =>
      rename_i k j d
      rcases Nat.lt_trichotomy j u with e | e | e
      · exact .step h1 h2 (ih e (hw.cl _ _ h2) hud (fun hx => hno (.step h1 ((upd_ne (by omega)).trans h2) hx)))
      · subst e; exact .step h1 h2 (.refl _)
      · exact absurd (.step h1 ((upd_ne (by omega)).trans h2) ((upd_above hw e).2 h3)) hno
  have hdu : ∀ d, ¬ Av r pr d u → Up r (upd U u c) u d := fun d hd => by
    by_cases e : d = u
    · subst e; exact .refl _
    · refine (upd_u hw hne huc).2 (Or.inr (hn.all d fun p hp hpa => h.dom p d hpa fun hav => hd (.step hav hp (fun e' => e e'.symm))))
  refine ⟨huc, hcr, hj, ⟨⟨?_, ?_, ?_⟩, ?_, ?_, by omega, ?_, ?_, ?_, ?_⟩⟩
  · rw [upd_ne (by omega)]; exact hw.root
  · intro k j hk hkj
    by_cases e : k = u
    · subst e
      rw [upd_self] at hkj
      obtain rfl := Option.some.inj hkj
      exact ⟨huc, hcr⟩
    · rw [upd_ne e] at hkj
      exact hw.gt k j hk hkj
  · intro k j hkj
    rw [hal]
    by_cases e : k = u
    · subst e
      rw [upd_self] at hkj
      obtain rfl := Option.some.inj hkj
      exact Or.inr hca
    · rw [upd_ne e] at hkj
      exact Or.inr (hw.cl k j hkj)
  · intro k
    rw [hal, h.al]
    by_cases h0 : a = 0
    · rw [if_pos h0]; omega
    · have := h.ab
      rw [if_neg h0]; omega
  · by_cases h0 : a = 0
    · exact Or.inl (if_pos h0)
    · exact Or.inr (if_neg h0)
  · intro k hk ha d hd hdk hkb g hg2 hkg
    rcases Nat.lt_trichotomy k u with e | e | e
    · have hka : (U k).isSome = true := by rcases (hal k).1 ha with e' | e'; omega; exact e'
      have hdu' := hkb e
      exact upd_low hw (by omega) (h.fw k hk hka d (hshr hka hd) hdk (fun _ => by omega) g hg2 hkg)
    · subst e
      rcases (upd_u hw hne huc).1 hd with e | hcd
      · exact absurd e hdk
      · have hga : (U g).isSome = true := (h.al g).2 ⟨by rcases h.ab with e | e <;> omega, hg.rng k g hg2⟩
        exact (upd_above hw hkg).2 ((hn.up g hg2 hga).trans hcd)
    · have hka : (U k).isSome = true := by rcases (hal k).1 ha with e' | e'; omega; exact e'
      exact (upd_above hw (by omega)).2 (h.fw k hk hka d ((upd_above hw e).1 hd) hdk (fun h => by omega) g hg2 hkg)
  · intro k hk ha d hd
    have hd' : ∀ p ∈ pr k, (U p).isSome = true → Up r U p d := fun p hp hpa => hshr hpa (hd p hp ((hal p).2 (Or.inr hpa)))
    rcases Nat.lt_trichotomy k u with e | e | e
    · have hka : (U k).isSome = true := by rcases (hal k).1 ha with e' | e'; omega; exact e'
      have hkd := h.me k hk hka d hd'
      by_cases hdl : d ≤ u
      · exact upd_low hw hdl hkd
      · refine Classical.byContradiction fun hno => hno ?_
        have hku := hpass k d e hka hkd (by omega) hno
        obtain ⟨g, hg2, hkg⟩ := hg.fwd k hk
        have hgr := hg.rng k g hg2
        obtain ⟨h0, _⟩ := hlow k e hka
        have hga : (U g).isSome = true := (h.al g).2 ⟨by omega, hgr⟩
        have hgu := h.fw k hk hka u hku (by omega) (fun _ => by omega) g hg2 hkg
        have h1 := upd_low (c := c) hw (Nat.le_refl u) hgu
        have h2 := hd g hg2 ((hal g).2 (Or.inr hga))
        have h3 : Up r (upd U u c) u d := by
          rcases h1.linear h2 with h3 | h3
          · exact h3
          · have hda : (U d).isSome = true := hkd.alive hw hka
            have := (hshr hda h3).le hw
            omega
        exact (upd_low hw (Nat.le_refl u) hku).trans h3
    · subst e
      exact (upd_u hw hne huc).2 (Or.inr (hn.all d hd'))
    · have hka : (U k).isSome = true := by rcases (hal k).1 ha with e' | e'; omega; exact e'
      exact (upd_above hw e).2 (h.me k hk hka d hd')
  · intro k d ha hd
    by_cases e : k = u
    · subst e
      rcases (upd_u hw hne huc).1 hd with e | hcd
      · subst e; exact .refl
      · have hfd := hfc.trans hcd
        exact .step (h.anc f d hfa hfd) hf (by have := hfd.le hw; omega)
    · have hka : (U k).isSome = true := by rcases (hal k).1 ha with e' | e'; exact absurd e' e; exact e'
      exact h.anc k d hka (hshr hka hd)
  · intro k d ha hd
    rcases Nat.lt_trichotomy k u with e | e | e
    · have hka : (U k).isSome = true := by rcases (hal k).1 ha with e' | e'; omega; exact e'
      have hkd := h.dom k d hka hd
      by_cases hdl : d ≤ u
      · exact upd_low hw hdl hkd
      · refine Classical.byContradiction fun hno => hno ?_
        have hku := hpass k d e hka hkd (by omega) hno
        have hlo := h.anc k u hka hku
        have hdu2 : ¬ Av r pr d u := fun hav => hd (by
          clear hkd hno hku hd ha hka e
          induction hlo with
          | refl => exact hav
          | step _ h2 h3 ih => exact .step ih h2 (by omega))
        exact (upd_low hw (Nat.le_refl u) hku).trans (hdu d hdu2)
    · subst e; exact hdu d hd
    · have hka : (U k).isSome = true := by rcases (hal k).1 ha with e' | e'; omega; exact e'
      exact (upd_above hw e).2 (h.dom k d hka hd)
end
/-- At rest: the chains are the dominators. -/
theorem DomI.final (h : DomI r pr U 0 0) (hfix : ∀ k, k < r → ∃ c, U k = some c ∧ NearOf r U (pr k) c) (hg : DomG r pr) {k d : Nat} (hk : k ≤ r) : Up r U k d ↔ ¬ Av r pr d k := by
  constructor
  · intro hd hav
    have hx : ∀ x, Av r pr d x → x ≤ r → ¬ Up r U x d := fun x hx => by
      induction hx with
      | root hne => intro _ hu; exact hne hu.of_root.symm
      | step hp hpk hne ih =>
        rename_i p x
        intro hxr hu
        obtain ⟨hxr', j, hj, hjd⟩ := hu.inv hne
        obtain ⟨c, hc, hn⟩ := hfix x (by omega)
        rw [hj] at hc
        obtain rfl := Option.some.inj hc
        have hpr := hg.rng x p hpk
        exact ih hpr ((hn.up p hpk ((h.al p).2 ⟨Nat.zero_le _, hpr⟩)).trans hjd)
    exact hx k hav hk hd
  · exact h.dom k d ((h.al k).2 ⟨Nat.zero_le _, hk⟩)
end
end Go.Proofs.Ythlpndgfphjlkaa

namespace Go.Proofs.Ythlpndgfphjlkaa
open Go.RowKit
set_option linter.unusedVariables false

/-- The lists of a tree: nodes by their order in 'post'. -/
structure TreeL (N r : Nat) (post : List Nat) (ordL upL : List Int) (U : Nat → Option Nat) : Prop where
  len : post.length = r + 1
  nd : ∀ i j (hi : i < post.length) (hj : j < post.length), post[i] = post[j] → i = j
  rng : ∀ i (hi : i < post.length), post[i] < N
  ol : ordL.length = N
  ul : upL.length = N
  ord : ∀ k (hk : k < post.length), ordL[post[k]]? = some (k : Int)
  out : ∀ v, v < N → v ∉ post → ordL[v]? = some (-1) ∧ upL[v]? = some (-1)
  up : ∀ k (hk : k < post.length), (U k = none → upL[post[k]]? = some (-1)) ∧ ∀ j, U k = some j → ∃ hj : j < post.length, upL[post[k]]? = some (post[j] : Int)
section
variable {N r : Nat} {post : List Nat} {ordL upL : List Int} {U : Nat → Option Nat}
theorem TreeL.ordAt (h : TreeL N r post ordL upL U) {k : Nat} (hk : k < post.length) : ∃ hv : post[k] < ordL.length, ordL[post[k]] = (k : Int) := by
  obtain ⟨h1, h2⟩ := List.getElem?_eq_some_iff.1 (h.ord k hk)
  exact ⟨h1, h2⟩
theorem TreeL.upAt (h : TreeL N r post ordL upL U) {k j : Nat} (hk : k < post.length) (hj : U k = some j) : ∃ (hj' : j < post.length) (hv : post[k] < upL.length), upL[post[k]] = (post[j] : Int) := by
  obtain ⟨hj', h1⟩ := (h.up k hk).2 j hj
  obtain ⟨h2, h3⟩ := List.getElem?_eq_some_iff.1 h1
  exact ⟨hj', h2, h3⟩
end
/-- The walk of meet, one step. -/
structure MeetI (r : Nat) (U : Nat → Option Nat) (a b ka kb : Nat) : Prop where
  a1 : Up r U a ka
  b1 : Up r U b kb
  al : (U ka).isSome
  bl : (U kb).isSome
  ar : ka ≤ r
  br : kb ≤ r
  all : ∀ d, Up r U a d → Up r U b d → Up r U ka d ∧ Up r U kb d
theorem MeetI.left {r : Nat} {U : Nat → Option Nat} {a b ka kb j : Nat} (hw : UpWf r U) (h : MeetI r U a b ka kb) (hlt : ka < kb) (hj : U ka = some j) : ka < j ∧ MeetI r U a b j kb := by
  have hne : ka ≠ r := by have := h.br; omega
  obtain ⟨h1, h2⟩ := hw.gt _ _ hne hj
  refine ⟨h1, h.a1.trans (.step hne hj (.refl _)), h.b1, hw.cl _ _ hj, h.bl, h2, h.br, fun d hd1 hd2 => ?_⟩
  obtain ⟨k1, k2⟩ := h.all d hd1 hd2
  have hdb := k2.le hw
  obtain ⟨_, j', e, k3⟩ := k1.inv (by omega)
  rw [hj] at e
  obtain rfl := Option.some.inj e
  exact ⟨k3, k2⟩
theorem MeetI.right {r : Nat} {U : Nat → Option Nat} {a b ka kb j : Nat} (hw : UpWf r U) (h : MeetI r U a b ka kb) (hlt : kb < ka) (hj : U kb = some j) : kb < j ∧ MeetI r U a b ka j := by
  have hne : kb ≠ r := by have := h.ar; omega
  obtain ⟨h1, h2⟩ := hw.gt _ _ hne hj
  refine ⟨h1, h.a1, h.b1.trans (.step hne hj (.refl _)), h.al, hw.cl _ _ hj, h.ar, h2, fun d hd1 hd2 => ?_⟩
  obtain ⟨k1, k2⟩ := h.all d hd1 hd2
  have hda := k1.le hw
  obtain ⟨_, j', e, k3⟩ := k2.inv (by omega)
  rw [hj] at e
  obtain rfl := Option.some.inj e
  exact ⟨k1, k3⟩
theorem MeetI.done {r : Nat} {U : Nat → Option Nat} {a b c : Nat} (h : MeetI r U a b c c) : MeetOf r U a b c := ⟨h.a1, h.b1, fun d h1 h2 => (h.all d h1 h2).1⟩
/-- The order of a node, read off the list. -/
def ordOf (ordL : List Int) (v : Value) : Nat := ((ordL[(intOf v).toNat]?).getD 0).toNat
theorem ordOf_at {N r : Nat} {post : List Nat} {ordL upL : List Int} {U : Nat → Option Nat} (h : TreeL N r post ordL upL U) {k : Nat} (hk : k < post.length) : ordOf ordL (.int .i64 (post[k] : Nat)) = k := by
  unfold ordOf
  simp only [intOf, Int.toNat_natCast]
  rw [h.ord k hk]
  simp
def RetMeet (r : Nat) (U : Nat → Option Nat) (post : List Nat) (a b : Nat) (e : Ending) : Prop := ∃ c, ∃ hc : c < post.length, e = .returned (.int .i64 (post[c] : Nat)) ∧ MeetOf r U a b c
set_option maxRecDepth 100000 in
set_option maxHeartbeats 1000000 in
theorem meet_any (N r : Nat) (post : List Nat) (ordL upL : List Int) (U : Nat → Option Nat) (AU AO AP : Option Addr) (cU cO nP cP : Nat) (a b : Nat) (w : World) (hN : N ≤ 100000) (hT : Hid (TreeL N r post ordL upL U)) (hw : Hid (UpWf r U)) (ha : a < post.length) (hb : b < post.length) (hal : Hid ((U a).isSome = true)) (hbl : Hid ((U b).isSome = true)) (hU : Sl Lay.int w AU upL) (hO : Sl Lay.int w AO ordL) :
    Calls Try.prog 79 #[.agg #[.slice AU upL.length cU, .slice AO ordL.length cO, .slice AP nP cP], .int .i64 (post[a] : Nat), .int .i64 (post[b] : Nat)] w fun e w' => RetMeet r U post a b e ∧ Below w.heap.size w w' := by
  have hpl := hT.out.len
  have hul := hT.out.ul
  have hol := hT.out.ol
  have bx : Box (w.alloc (.cells #[.slice AU upL.length cU, .slice AO ordL.length cO, .slice AP nP cP] 80)) w.heap.size [.slice AU upL.length cU, .slice AO ordL.length cO, .slice AP nP cP] 80 := Box.new _ _ _
  have hb0 : Below w.heap.size w (w.alloc (.cells #[.slice AU upL.length cU, .slice AO ordL.length cO, .slice AP nP cP] 80)) := (by repeat (first | assumption | exact Below.refl _ _ | apply bw_alloc | apply bw_drew | apply bw_drewN | apply bw_later | apply bw_step))
  have H0 : Hid (MeetI r U a b a b) := ⟨.refl _, .refl _, hal.out, hbl.out, by omega, by omega, fun d h1 h2 => ⟨h1, h2⟩⟩
  have HUL := Lib.hid hul
  have HOL := Lib.hid hol
  have HPL := Lib.hid hpl
  have hpr : post.length ≤ r + 1 := by omega
  have hrp : r < post.length := by omega
  clear hpl hul hol hal hbl
  go_enter Try.func79, Try.ntmps79
  go_wp2_with fail
  go_loopw [1, 2] (fun v1 v2 wr => ∃ (ka kb : Nat) (hka : ka < post.length) (hkb : kb < post.length), v1 = .int .i64 (post[ka] : Nat) ∧ v2 = .int .i64 (post[kb] : Nat) ∧ Hid (MeetI r U a b ka kb) ∧ Box wr w.heap.size [.slice AU upL.length cU, .slice AO ordL.length cO, .slice AP nP cP] 80 ∧ Below w.heap.size w wr) (fun v1 v2 _ => (r - ordOf ordL v1) + (r - ordOf ordL v2))
  case atStart => exact ⟨a, b, ha, hb, rfl, rfl, H0, bx, hb0⟩
  case round =>
    obtain ⟨ka, kb, hka, hkb, rfl, rfl, HM, hbx, hbw⟩ := hrel
    have p0 := hbx.cell 0 rfl
    have p1 := hbx.cell 1 rfl
    have pl := hbx.lt
    have HMA := Lib.hid (ordOf_at hT.out hka)
    have HMB := Lib.hid (ordOf_at hT.out hkb)
    by_cases e : ka = kb
    · subst e
      have HD := Lib.hid HM.out.done
      have te : ((post[ka] : Int) != (post[ka] : Int)) = false := by simp
      go_wp2_with fail
      go_ret
      exact ⟨⟨ka, hka, rfl, HD.out⟩, hbw⟩
    · have hne : ((post[ka] : Int) != (post[kb] : Int)) = true := by
        rw [bne_iff_ne]
        intro h
        exact e (hT.out.nd ka kb hka hkb (by omega))
      obtain ⟨ha1, ha2⟩ := hT.out.ordAt hka
      obtain ⟨hb1, hb2⟩ := hT.out.ordAt hkb
      obtain ⟨bO, oO, rfl, hbO, da⟩ := (hO.mono hbw).int_at ha1
      obtain ⟨bO', oO', eO, hbO', db⟩ := (hO.mono hbw).int_at hb1
      injection eO with eO
      injection eO with z1 z2
      subst z1 z2
      rw [ha2] at da
      rw [hb2] at db
      have HA2 := Lib.hid ha2
      have HB2 := Lib.hid hb2
      have hna : post[ka] < N := hT.out.rng ka hka
      have hnb : post[kb] < N := hT.out.rng kb hkb
      clear ha2 hb2
      by_cases hlt : ka < kb
      · obtain ⟨j, hj⟩ := Option.isSome_iff_exists.1 HM.out.al
        obtain ⟨hj', hu1, hu2⟩ := hT.out.upAt hka hj
        obtain ⟨bU, oU, rfl, hbU, du⟩ := (hU.mono hbw).int_at hu1
        rw [hu2] at du
        obtain ⟨hkj, hM2⟩ := HM.out.left hw.out hlt hj
        have HM2 := Lib.hid hM2
        have HMJ := Lib.hid (ordOf_at hT.out hj')
        have hjr : j ≤ r := by omega
        clear hu2 hM2 hj e
        go_wp2_with fail
        refine wp_region_later (by kernel_rfl) (by kernel_rfl) ?_
        repeat (go_big_quiet_step (fail))
        refine wpQuiet_nil ?_
        rintro _ ⟨z, rfl⟩
        have hbz := hbx.mono z.h
        have hbwz := below_step hbw z.h
        have duz : z.W.cell? ⟨bU, oU + post[ka], none⟩ = some (.int .i64 (post[j] : Nat)) := keptC du hbU z.h
        have hbUz := Nat.lt_of_lt_of_le hbU z.h.size
        clear p0 p1 pl da db du hbO hbO' hbU hbx
        generalize z.W = wz at *
        clear z hbw
        have p0 := hbz.cell 0 rfl
        have pl := hbz.lt
        go_wp2_with fail
        go_roundw
        case rel => exact ⟨j, kb, hj', hkb, rfl, rfl, HM2, hbz, hbwz⟩
        case measure => rw [HMA.out, HMB.out, HMJ.out]; omega
      · have hlt2 : kb < ka := by omega
        obtain ⟨j, hj⟩ := Option.isSome_iff_exists.1 HM.out.bl
        obtain ⟨hj', hu1, hu2⟩ := hT.out.upAt hkb hj
        obtain ⟨bU, oU, rfl, hbU, du⟩ := (hU.mono hbw).int_at hu1
        rw [hu2] at du
        obtain ⟨hkj, hM2⟩ := HM.out.right hw.out hlt2 hj
        have HM2 := Lib.hid hM2
        have HMJ := Lib.hid (ordOf_at hT.out hj')
        have hjr : j ≤ r := by omega
        clear hu2 hM2 hj e
        go_wp2_with fail
        refine wp_region_later (by kernel_rfl) (by kernel_rfl) ?_
        repeat (go_big_quiet_step (fail))
        refine wpQuiet_nil ?_
        rintro _ ⟨z, rfl⟩
        have hbz := hbx.mono z.h
        have hbwz := below_step hbw z.h
        have duz : z.W.cell? ⟨bU, oU + post[kb], none⟩ = some (.int .i64 (post[j] : Nat)) := keptC du hbU z.h
        have hbUz := Nat.lt_of_lt_of_le hbU z.h.size
        clear p0 p1 pl da db du hbO hbO' hbU hbx
        generalize z.W = wz at *
        clear z hbw
        have p0 := hbz.cell 0 rfl
        have pl := hbz.lt
        go_wp2_with fail
        go_roundw
        case rel => exact ⟨ka, j, hka, hj', rfl, rfl, HM2, hbz, hbwz⟩
        case measure => rw [HMA.out, HMB.out, HMJ.out]; omega
end Go.Proofs.Ythlpndgfphjlkaa

namespace Go.Proofs.Ythlpndgfphjlkaa
open Go.RowKit
set_option linter.unusedVariables false

/-- The lists of the predecessors. -/
def PredS (w : World) (AP : Option Addr) (preds : List (List Nat)) : Prop := ∀ v (h : v < preds.length), ∃ b o A c, AP = some ⟨b, o, none⟩ ∧ b < w.heap.size ∧ w.cell? ⟨b, o + v, none⟩ = some (.slice A preds[v].length c) ∧ Sl Lay.int w A (preds[v].map fun (x : Nat) => (x : Int))
theorem PredS.mono {w w' : World} {AP : Option Addr} {preds : List (List Nat)} (h : PredS w AP preds) (hb : Below w.heap.size w w') : PredS w' AP preds := fun v hv => by
  obtain ⟨b, o, A, c, h1, h2, h3, h4⟩ := h v hv
  exact ⟨b, o, A, c, h1, Nat.lt_of_lt_of_le h2 hb.size, keptC h3 h2 hb, h4.mono hb⟩
/-- The order of a node. -/
def ordN (post : List Nat) (v : Nat) : Option Nat := post.findIdx? fun x => x == v
def prL (post : List Nat) (l : List Nat) : List Nat := l.filterMap (ordN post)
theorem ordN_some {post : List Nat} {v q : Nat} (h : ordN post v = some q) : ∃ hq : q < post.length, post[q] = v := by
  obtain ⟨h1, h2, _⟩ := List.findIdx?_eq_some_iff_getElem.1 h
  exact ⟨h1, by simpa using h2⟩
theorem ordN_none {post : List Nat} {v : Nat} (h : ordN post v = none) : v ∉ post := fun hm => by
  have := List.findIdx?_eq_none_iff.1 h v hm
  simp at this
theorem prL_snoc (post : List Nat) (l : List Nat) (x : Nat) : prL post (l ++ [x]) = prL post l ++ (match ordN post x with | some q => [q] | none => []) := by
  unfold prL
  rw [List.filterMap_append]
  congr 1
  cases h : ordN post x <;> simp [List.filterMap, h]
inductive NearI (r : Nat) (U : Nat → Option Nat) (post : List Nat) (l : List Nat) : Value → Prop
  | none : (∀ q ∈ l, ¬ (U q).isSome) → NearI r U post l (.int .i64 (-1))
  | some {c : Nat} (hc : c < post.length) : (U c).isSome → NearOf r U l c → NearI r U post l (.int .i64 (post[c] : Nat))
def RetNear (r : Nat) (U : Nat → Option Nat) (post : List Nat) (l : List Nat) (e : Ending) : Prop := ∃ v, e = .returned v ∧ NearI r U post l v
set_option maxRecDepth 100000 in
set_option maxHeartbeats 2000000 in
theorem nearest_any (N r : Nat) (post : List Nat) (ordL upL : List Int) (preds : List (List Nat)) (U : Nat → Option Nat) (AU AO AP : Option Addr) (cU cO cP : Nat) (v : Nat) (w : World) (hN : N ≤ 100000) (hT : Hid (TreeL N r post ordL upL U)) (hw : Hid (UpWf r U)) (hv : v < N) (hpn : preds.length = N) (hpr : Hid (∀ (h : v < preds.length), ∀ p ∈ preds[v], p < N)) (hpl : Hid (∀ (h : v < preds.length), preds[v].length ≤ 100000)) (hU : Sl Lay.int w AU upL) (hO : Sl Lay.int w AO ordL) (hP : PredS w AP preds) :
    Calls Try.prog 61 #[.agg #[.slice AU upL.length cU, .slice AO ordL.length cO, .slice AP preds.length cP], .int .i64 (v : Nat)] w fun e w' => RetNear r U post (prL post (preds.getD v [])) e ∧ Below w.heap.size w w' := by
  have hvp : v < preds.length := by omega
  have hul : upL.length = N := hT.out.ul
  have HUL := Lib.hid hul
  have HPN := Lib.hid hpn
  have bx : Box (w.alloc (.cells #[.slice AU upL.length cU, .slice AO ordL.length cO, .slice AP preds.length cP] 80)) w.heap.size [.slice AU upL.length cU, .slice AO ordL.length cO, .slice AP preds.length cP] 80 := Box.new _ _ _
  have hb0 : Below w.heap.size w (w.alloc (.cells #[.slice AU upL.length cU, .slice AO ordL.length cO, .slice AP preds.length cP] 80)) := (by repeat (first | assumption | exact Below.refl _ _ | apply bw_alloc | apply bw_drew | apply bw_drewN | apply bw_later | apply bw_step))
  obtain ⟨L, HL⟩ : ∃ L, Hid (L = preds[v]) := ⟨_, Lib.hid rfl⟩
  have HGD : Hid (preds.getD v [] = L) := by show _ = _; rw [HL.out]; simp [List.getD, hvp]
  rw [HGD.out]
  have HR : Hid (∀ p ∈ L, p < N) := by rw [HL.out]; exact Lib.hid (hpr.out hvp)
  have hLl : L.length ≤ 100000 := by rw [HL.out]; exact hpl.out hvp
  obtain ⟨bP, oP, A, cA, rfl, hbP, dP0, hsA⟩ := hP v hvp
  rw [← HL.out] at dP0 hsA
  have dP := keptC dP0 hbP hb0
  have hvI : (v : Int) < (preds.length : Int) := by omega
  clear hul hpn hpr hpl HL HGD
  go_enter Try.func61, Try.ntmps61
  go_wp2_with fail
  go_loopw [5, 14] (fun v5 v14 wr => ∃ i : Nat, v14 = .int .i64 i ∧ i ≤ L.length ∧ Hid (NearI r U post (prL post (L.take i)) v5) ∧ Box wr w.heap.size [.slice AU upL.length cU, .slice AO ordL.length cO, .slice (some ⟨bP, oP, none⟩) preds.length cP] 80 ∧ Below w.heap.size w wr) (fun _ v14 _ => L.length - (intOf v14).toNat)
  case atStart => exact ⟨0, rfl, Nat.zero_le _, NearI.none (by simp [prL]), bx, hb0⟩
  case round =>
    obtain ⟨i, rfl, hi, HN, hbx, hbw⟩ := hrel
    have p0 := hbx.cell 0 rfl
    have pl := hbx.lt
    by_cases hlt : i < L.length
    · have hpN : L[i] < N := HR.out _ (List.getElem_mem hlt)
      have hpu : L[i] < upL.length := by rw [HUL.out]; exact hpN
      obtain ⟨bA, oA, rfl, hbA, dA⟩ := (hsA.mono hbw).int_at (i := i) (by simpa using hlt)
      simp only [List.getElem_map] at dA
      obtain ⟨bU, oU, rfl, hbU, dU⟩ := (hU.mono hbw).int_at hpu
      have HT1 : Hid (L.take (i + 1) = L.take i ++ [L[i]]) := List.take_succ_eq_append_getElem hlt
      have HSN := Lib.hid (prL_snoc post (L.take i) L[i])
      have hiI : (i : Int) < (L.length : Int) := by omega
      cases hoq : ordN post L[i] with
      | none =>
        have hup : upL[L[i]] = -1 := by
          have h1 := (hT.out.out L[i] hpN (ordN_none hoq)).2
          obtain ⟨_, h2⟩ := List.getElem?_eq_some_iff.1 h1
          exact h2
        rw [hup] at dU
        have HN2 : Hid (NearI r U post (prL post (L.take (i + 1))) u5) := by
          show NearI _ _ _ _ _
          rw [HT1.out, HSN.out, hoq, List.append_nil]; exact HN.out
        clear hoq hup HSN HT1 HN
        go_wp2_with fail
        go_roundw
        case rel => exact ⟨i + 1, by go_num, by omega, HN2, hbx, hbw⟩
        case measure => simp [intOf]; omega
      | some q =>
        obtain ⟨hq, hqe⟩ := ordN_some hoq
        have HS2 : Hid (prL post (L.take (i + 1)) = prL post (L.take i) ++ [q]) := by show _ = _; rw [HT1.out, HSN.out, hoq]
        cases huq : U q with
        | none =>
          have hup : upL[L[i]] = -1 := by
            have h1 := (hT.out.up q hq).1 huq
            rw [hqe] at h1
            obtain ⟨_, h2⟩ := List.getElem?_eq_some_iff.1 h1
            exact h2
          rw [hup] at dU
          have hd : ¬ (U q).isSome = true := by rw [huq]; simp
          have HN2 : Hid (NearI r U post (prL post (L.take (i + 1))) u5) := by
            show NearI _ _ _ _ _
            rw [HS2.out]
            cases HN.out with
            | none h => exact .none (fun q' hq' => by
                rcases List.mem_append.1 hq' with hq' | hq'
                · exact h q' hq'
                · simp at hq'; subst hq'; exact hd)
            | some hc hca hn => exact .some hc hca (hn.dead hd)
          clear hoq hup HSN HT1 HN hd huq HS2 hqe
          go_wp2_with fail
          go_roundw
          case rel => exact ⟨i + 1, by go_num, by omega, HN2, hbx, hbw⟩
          case measure => simp [intOf]; omega
        | some j =>
          obtain ⟨hj', hu1, hu2⟩ := hT.out.upAt hq huq
          have hup : upL[L[i]] = (post[j] : Nat) := by
            rw [← hu2]
            congr 1
            exact hqe.symm
          rw [hup] at dU
          have hqa : (U q).isSome = true := by rw [huq]; rfl
          have HQA := Lib.hid hqa
          have HQE := Lib.hid hqe
          clear hoq hup HSN HT1 huq hu1 hu2 hqa hqe
          cases hne : HN.out with
          | none h =>
            have HN2 : Hid (NearI r U post (prL post (L.take (i + 1))) (.int .i64 (L[i] : Nat))) := by
              show NearI _ _ _ _ _
              rw [HS2.out, ← HQE.out]
              exact .some hq HQA.out (NearOf.one HQA.out h)
            clear HS2 HN hne
            go_wp2_with fail
            go_roundw
            case rel => exact ⟨i + 1, by go_num, by omega, HN2, hbx, hbw⟩
            case measure => simp [intOf]; omega
          | some hc hca hn =>
            rename_i c
            have HCA := Lib.hid hca
            have HNN := Lib.hid hn
            have HME : Hid (∀ W, Below w.heap.size w W → Calls Try.prog 79 #[.agg #[.slice (some ⟨bU, oU, none⟩) upL.length cU, .slice AO ordL.length cO, .slice (some ⟨bP, oP, none⟩) preds.length cP], .int .i64 (post[c] : Nat), .int .i64 (L[i] : Nat)] W fun e w' => RetMeet r U post c q e ∧ Below W.heap.size W w') := fun W hW => by
              have := meet_any N r post ordL upL U (some ⟨bU, oU, none⟩) AO (some ⟨bP, oP, none⟩) cU cO preds.length cP c q W hN hT hw hc hq HCA HQA (hU.mono hW) (hO.mono hW)
              rwa [HQE.out] at this
            clear HN hne hn hca
            have p1 := hbx.cell 1 rfl
            have p2 := hbx.cell 2 rfl
            go_wp2_with fail
            refine (HME.out _ hbw).mono ?_
            rintro e w4 ⟨⟨c2, hc2, rfl, hm⟩, hb4⟩
            have HN2 : Hid (NearI r U post (prL post (L.take (i + 1))) (.int .i64 (post[c2] : Nat))) := by
              show NearI _ _ _ _ _
              rw [HS2.out]
              exact .some hc2 (hm.l.alive hw.out HCA.out) (HNN.out.meet HQA.out hm)
            have hbx4 := hbx.mono hb4
            have hbw4 := below_step hbw hb4
            clear p0 p1 p2 pl hbx hb4 HS2 HNN hm dA dU HME
            go_wp2_with fail
            go_roundw
            case rel => exact ⟨i + 1, by go_num, by omega, HN2, hbx4, hbw4⟩
            case measure => simp [intOf]; omega
    · obtain rfl : i = L.length := by omega
      have HF : Hid (NearI r U post (prL post L) u5) := by
        have := HN.out
        rw [List.take_length] at this
        exact Lib.hid this
      clear HN hlt
      go_wp2_with fail
      go_ret
      exact ⟨⟨_, rfl, HF.out⟩, hbw⟩
end Go.Proofs.Ythlpndgfphjlkaa

namespace Go.Proofs.Ythlpndgfphjlkaa
open Go.RowKit
set_option linter.unusedVariables false

/-- The finished tree: the root has no one above. -/
structure TreeF (N r : Nat) (post : List Nat) (ordL upL : List Int) (U : Nat → Option Nat) : Prop where
  len : post.length = r + 1
  nd : ∀ i j (hi : i < post.length) (hj : j < post.length), post[i] = post[j] → i = j
  rng : ∀ i (hi : i < post.length), post[i] < N
  ol : ordL.length = N
  ul : upL.length = N
  ord : ∀ k (hk : k < post.length), ordL[post[k]]? = some (k : Int)
  out : ∀ v, v < N → v ∉ post → ordL[v]? = some (-1)
  up : ∀ k (hk : k < post.length), k ≠ r → ∃ j, U k = some j ∧ ∃ hj : j < post.length, upL[post[k]]? = some (post[j] : Int)
set_option maxRecDepth 100000 in
set_option maxHeartbeats 1000000 in
theorem reachable_any (N r : Nat) (post : List Nat) (ordL upL : List Int) (U : Nat → Option Nat) (AU AO AP : Option Addr) (cU cO nP cP : Nat) (v : Nat) (w : World) (hN : N ≤ 100000) (hT : Hid (TreeF N r post ordL upL U)) (hv : v < N) (hO : Sl Lay.int w AO ordL) :
    Calls Try.prog 62 #[.agg #[.slice AU upL.length cU, .slice AO ordL.length cO, .slice AP nP cP], .int .i64 (v : Nat)] w fun e w' => e = .returned (.bool (ordN post v).isSome) ∧ Below w.heap.size w w' := by
  have hvo : v < ordL.length := by rw [hT.out.ol]; exact hv
  have hvI : (v : Int) < (ordL.length : Int) := by omega
  obtain ⟨bO, oO, rfl, hbO, dO⟩ := hO.int_at hvo
  have hb0 : Below w.heap.size w (w.alloc (.cells #[.slice AU upL.length cU, .slice (some ⟨bO, oO, none⟩) ordL.length cO, .slice AP nP cP] 80)) := (by repeat (first | assumption | exact Below.refl _ _ | apply bw_alloc | apply bw_drew | apply bw_drewN | apply bw_later | apply bw_step))
  cases hq : ordN post v with
  | some q =>
    obtain ⟨hq1, hq2⟩ := ordN_some hq
    have h1 : ordL[v] = (q : Int) := by
      have := hT.out.ord q hq1
      rw [hq2] at this
      exact (List.getElem?_eq_some_iff.1 this).2
    rw [h1] at dO
    have hq0 : (0 : Int) ≤ (q : Int) := by omega
    clear hq h1 hq2
    go_enter Try.func62, Try.ntmps62
    go_wp2_with fail
    go_ret
    exact ⟨rfl, hb0⟩
  | none =>
    have h1 : ordL[v] = -1 := by
      have := hT.out.out v hv (ordN_none hq)
      exact (List.getElem?_eq_some_iff.1 this).2
    rw [h1] at dO
    clear hq h1
    go_enter Try.func62, Try.ntmps62
    go_wp2_with fail
    go_ret
    exact ⟨rfl, hb0⟩
/-- Does a lie on the chain of b? -/
def DomR (r : Nat) (U : Nat → Option Nat) (post : List Nat) (a b : Nat) (x : Bool) : Prop := x = true ↔ ∃ ka kb, ordN post a = some ka ∧ ordN post b = some kb ∧ Up r U kb ka
def RetDom (r : Nat) (U : Nat → Option Nat) (post : List Nat) (a b : Nat) (e : Ending) : Prop := ∃ x, e = .returned (.bool x) ∧ DomR r U post a b x
theorem ordF_at {N r : Nat} {post : List Nat} {ordL upL : List Int} {U : Nat → Option Nat} (h : TreeF N r post ordL upL U) {k : Nat} (hk : k < post.length) : ordOf ordL (.int .i64 (post[k] : Nat)) = k := by
  unfold ordOf
  simp only [intOf, Int.toNat_natCast]
  rw [h.ord k hk]
  simp
set_option maxRecDepth 100000 in
set_option maxHeartbeats 2000000 in
theorem dominates_any (N r : Nat) (post : List Nat) (ordL upL : List Int) (U : Nat → Option Nat) (AU AO AP : Option Addr) (cU cO nP cP : Nat) (a b : Nat) (w : World) (hN : N ≤ 100000) (hT : Hid (TreeF N r post ordL upL U)) (hw : Hid (UpWf r U)) (ha : a < N) (hb : b < N) (hU : Sl Lay.int w AU upL) (hO : Sl Lay.int w AO ordL) :
    Calls Try.prog 44 #[.agg #[.slice AU upL.length cU, .slice AO ordL.length cO, .slice AP nP cP], .int .i64 (a : Nat), .int .i64 (b : Nat)] w fun e w' => RetDom r U post a b e ∧ Below w.heap.size w w' := by
  have bx : Box (w.alloc (.cells #[.slice AU upL.length cU, .slice AO ordL.length cO, .slice AP nP cP] 80)) w.heap.size [.slice AU upL.length cU, .slice AO ordL.length cO, .slice AP nP cP] 80 := Box.new _ _ _
  have hb0 : Below w.heap.size w (w.alloc (.cells #[.slice AU upL.length cU, .slice AO ordL.length cO, .slice AP nP cP] 80)) := (by repeat (first | assumption | exact Below.refl _ _ | apply bw_alloc | apply bw_drew | apply bw_drewN | apply bw_later | apply bw_step))
  have HRA := Lib.hid (fun W (hW : Below w.heap.size w W) => reachable_any N r post ordL upL U AU AO AP cU cO nP cP a W hN hT ha (hO.mono hW))
  have HRB := Lib.hid (fun W (hW : Below w.heap.size w W) => reachable_any N r post ordL upL U AU AO AP cU cO nP cP b W hN hT hb (hO.mono hW))
  have HD : Hid (DomR r U post a b = DomR r U post a b) := rfl
  go_enter Try.func44, Try.ntmps44
  cases hqa : ordN post a with
  | none =>
    have HB : Hid (DomR r U post a b false) := ⟨fun h => (by cases h), fun ⟨ka, kb, h1, _⟩ => by rw [hqa] at h1; cases h1⟩
    rw [hqa] at HRA
    simp only [Option.isSome_none] at HRA
    clear hqa
    go_wp2_with fail
    refine (HRA.out _ hb0).mono ?_
    rintro e w1 ⟨rfl, hb1⟩
    go_wp2_with fail
    go_ret
    exact ⟨⟨false, rfl, HB.out⟩, below_step hb0 hb1⟩
  | some ka =>
  rw [hqa] at HRA
  simp only [Option.isSome_some] at HRA
  obtain ⟨hka, hea⟩ := ordN_some hqa
  cases hqb : ordN post b with
  | none =>
    have HB : Hid (DomR r U post a b false) := ⟨fun h => (by cases h), fun ⟨ka, kb, _, h1, _⟩ => by rw [hqb] at h1; cases h1⟩
    rw [hqb] at HRB
    simp only [Option.isSome_none] at HRB
    clear hqa hqb hea
    have p0 := bx.cell 0 rfl
    go_wp2_with fail
    refine (HRA.out _ hb0).mono ?_
    rintro e w1 ⟨rfl, hb1⟩
    have bx1 := bx.mono hb1
    have q0 := bx1.cell 0 rfl
    have q1 := bx1.cell 1 rfl
    have q2 := bx1.cell 2 rfl
    have ql := bx1.lt
    clear p0 bx
    go_wp2_with fail
    refine (HRB.out _ (below_step hb0 hb1)).mono ?_
    rintro e w2 ⟨rfl, hb2⟩
    clear q0 q1 q2 ql
    go_wp2_with fail
    go_ret
    exact ⟨⟨false, rfl, HB.out⟩, below_step (below_step hb0 hb1) hb2⟩
  | some kb =>
  rw [hqb] at HRB
  simp only [Option.isSome_some] at HRB
  obtain ⟨hkb, heb⟩ := ordN_some hqb
  have HDX : Hid (∀ x : Bool, (x = true ↔ Up r U kb ka) → DomR r U post a b x) := fun x hx => ⟨fun h => ⟨ka, kb, hqa, hqb, hx.1 h⟩, fun ⟨k1, k2, h1, h2, h3⟩ => by
    rw [hqa] at h1
    rw [hqb] at h2
    obtain rfl := Option.some.inj h1
    obtain rfl := Option.some.inj h2
    exact hx.2 h3⟩
  have HEA := Lib.hid hea
  have HEB := Lib.hid heb
  have hlen : post.length = r + 1 := hT.out.len
  have hkar : ka ≤ r := by omega
  have hpr : post.length ≤ r + 1 := by omega
  have hao : a < ordL.length := by rw [hT.out.ol]; exact ha
  have hOA : ordL[a] = (ka : Int) := by
    have := hT.out.ord ka hka
    rw [hea] at this
    exact (List.getElem?_eq_some_iff.1 this).2
  have HOA := Lib.hid hOA
  clear hqa hqb hea heb hlen hOA
  have p0 := bx.cell 0 rfl
  go_wp2_with fail
  refine (HRA.out _ hb0).mono ?_
  rintro e w1 ⟨rfl, hb1⟩
  have bx1 := bx.mono hb1
  have q0 := bx1.cell 0 rfl
  have q1 := bx1.cell 1 rfl
  have q2 := bx1.cell 2 rfl
  have ql := bx1.lt
  have hbw1 := below_step hb0 hb1
  clear p0 bx hb0 hb1
  go_wp2_with fail
  refine (HRB.out _ hbw1).mono ?_
  rintro e w2 ⟨rfl, hb2⟩
  have bx2 := bx1.mono hb2
  have hbw2 := below_step hbw1 hb2
  clear q0 q1 q2 ql bx1 hbw1 hb2
  go_wp2_with fail
  go_loopw [2] (fun v2 wr => ∃ (k : Nat) (hk : k < post.length), v2 = .int .i64 (post[k] : Nat) ∧ Hid (Up r U kb k ∧ (Up r U kb ka → Up r U k ka)) ∧ Box wr w.heap.size [.slice AU upL.length cU, .slice AO ordL.length cO, .slice AP nP cP] 80 ∧ Below w.heap.size w wr) (fun v2 _ => r - ordOf ordL v2)
  case atStart => exact ⟨kb, hkb, by rw [HEB.out], ⟨.refl _, id⟩, bx2, hbw2⟩
  case round =>
    clear bx2 hbw2
    obtain ⟨k, hk, rfl, HU, hbx, hbw⟩ := hrel
    have p0 := hbx.cell 0 rfl
    have p1 := hbx.cell 1 rfl
    have pl := hbx.lt
    have HMK := Lib.hid (ordF_at hT.out hk)
    have hkN : post[k] < N := hT.out.rng k hk
    have hko : post[k] < ordL.length := by rw [hT.out.ol]; exact hkN
    obtain ⟨bO, oO, rfl, hbO, dk⟩ := (hO.mono hbw).int_at hko
    have hOK : ordL[post[k]] = (k : Int) := (List.getElem?_eq_some_iff.1 (hT.out.ord k hk)).2
    rw [hOK] at dk
    obtain ⟨bO', oO', eO, hbO', da⟩ := (hO.mono hbw).int_at hao
    injection eO with eO
    injection eO with z1 z2
    subst z1 z2
    rw [HOA.out] at da
    clear hOK
    have g0 : (0 : Int) ≤ (post[k] : Int) := by omega
    by_cases hlt : k < ka
    · have hkr : k ≠ r := by omega
      obtain ⟨j, hj, hj', hu⟩ := hT.out.up k hk hkr
      obtain ⟨hu1, hu2⟩ := List.getElem?_eq_some_iff.1 hu
      obtain ⟨bU, oU, rfl, hbU, du⟩ := (hU.mono hbw).int_at hu1
      rw [hu2] at du
      obtain ⟨hgt, hjr⟩ := hw.out.gt k j hkr hj
      have HU2 : Hid (Up r U kb j ∧ (Up r U kb ka → Up r U j ka)) := ⟨HU.out.1.trans (.step hkr hj (.refl _)), fun h => by
        obtain ⟨_, j', e, h3⟩ := (HU.out.2 h).inv (by omega)
        rw [hj] at e
        obtain rfl := Option.some.inj e
        exact h3⟩
      have HMJ := Lib.hid (ordF_at hT.out hj')
      clear hu hu2 hj HU
      go_wp2_with fail
      refine wp_region_later (by kernel_rfl) (by kernel_rfl) ?_
      repeat (go_big_quiet_step (fail))
      refine wpQuiet_nil ?_
      rintro _ ⟨z, rfl⟩
      have hbz := hbx.mono z.h
      have hbwz := below_step hbw z.h
      have duz : z.W.cell? ⟨bU, oU + post[k], none⟩ = some (.int .i64 (post[j] : Nat)) := keptC du hbU z.h
      have hbUz := Nat.lt_of_lt_of_le hbU z.h.size
      clear p0 p1 pl da dk du hbO hbO' hbU hbx
      generalize z.W = wz at *
      clear z hbw
      have p0 := hbz.cell 0 rfl
      have pl := hbz.lt
      go_wp2_with fail
      go_roundw
      case rel => exact ⟨j, hj', rfl, HU2, hbz, hbwz⟩
      case measure => rw [HMK.out, HMJ.out]; omega
    · go_wp2_with fail
      refine wp_region_later (by kernel_rfl) (by kernel_rfl) ?_
      repeat (go_big_quiet_step (fail))
      refine wpQuiet_nil ?_
      rintro _ ⟨z, rfl⟩
      have hbwz := below_step hbw z.h
      clear p0 p1 pl da dk hbO hbO' hbx
      by_cases he : a = post[k]
      · have hkk : k = ka := by
          refine hT.out.nd k ka hk hka ?_
          rw [HEA.out]; exact he.symm
        have HX : Hid (DomR r U post a b true) := HDX.out true ⟨fun _ => hkk ▸ HU.out.1, fun _ => rfl⟩
        have te : ((a : Int) == (post[k] : Int)) = true := by rw [he]; simp
        clear he hkk
        go_wp2_with fail
        go_ret
        exact ⟨⟨_, rfl, HX.out⟩, hbwz⟩
      · have HX : Hid (DomR r U post a b false) := HDX.out false ⟨fun h => (by cases h), fun h => by
          have h1 := HU.out.2 h
          have h2 := h1.le hw.out
          have h3 : k = ka := by omega
          subst h3
          exact absurd HEA.out.symm he⟩
        have te : ((a : Int) == (post[k] : Int)) = false := by rw [beq_eq_false_iff_ne]; omega
        clear he
        go_wp2_with fail
        go_ret
        exact ⟨⟨_, rfl, HX.out⟩, hbwz⟩
end Go.Proofs.Ythlpndgfphjlkaa
