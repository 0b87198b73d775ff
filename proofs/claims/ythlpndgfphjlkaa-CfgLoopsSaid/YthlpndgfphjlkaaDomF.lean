/-
  Plain: the tree of dominators over a postorder; what the finished tree tells of the graph.
-/
import Derived.Test.YthlpndgfphjlkaaDomE
namespace Go.Proofs.Ythlpndgfphjlkaa
set_option linter.unusedVariables false

/-- The predecessors of the node of order k, by their orders. -/
def prF (E : List (Int × Int)) (post : List Nat) (k : Nat) : List Nat := prL post (predL E (post.getD k 0))
theorem prF_at (E : List (Int × Int)) {post : List Nat} {k : Nat} (h : k < post.length) : prF E post k = prL post (predL E post[k]) := by
  unfold prF
  rw [List.getD_eq_getElem?_getD, List.getElem?_eq_getElem h]; rfl
theorem mem_prL {post l : List Nat} {q : Nat} : q ∈ prL post l ↔ ∃ p ∈ l, ordN post p = some q := by
  unfold prL; rw [List.mem_filterMap]
theorem nodup_idx {post : List Nat} (h : post.Nodup) : ∀ i j (hi : i < post.length) (hj : j < post.length), post[i] = post[j] → i = j := fun i j hi hj e => by
  rcases Nat.lt_trichotomy i j with h1 | h1 | h1
  · exact absurd e (List.pairwise_iff_getElem.1 h i j hi hj h1)
  · exact h1
  · exact absurd e.symm (List.pairwise_iff_getElem.1 h j i hj hi h1)
theorem ordN_at {post : List Nat} (h : post.Nodup) {k : Nat} (hk : k < post.length) : ordN post post[k] = some k := by
  cases hq : ordN post post[k] with
  | none => exact absurd (List.getElem_mem hk) (ordN_none hq)
  | some q =>
    obtain ⟨hq1, hq2⟩ := ordN_some hq
    rw [nodup_idx h q k hq1 hk hq2]
section
variable {E : List (Int × Int)} {n s r : Nat} {post : List Nat}
theorem PostOk.lastAt (h : PostOk E n s post) (hr : post.length = r + 1) : ∃ hr' : r < post.length, post[r] = s := by
  obtain ⟨M, hM⟩ := h.last
  refine ⟨by omega, ?_⟩
  subst hM
  simp at hr
  subst hr
  simp
theorem PostOk.domG (h : PostOk E n s post) (hr : post.length = r + 1) (hE : ∀ p ∈ E, inG n p) : DomG r (prF E post) := by
  refine ⟨fun k p hp => ?_, fun k hk => ?_⟩
  · unfold prF at hp
    obtain ⟨x, _, hx⟩ := mem_prL.1 hp
    obtain ⟨h1, _⟩ := ordN_some hx
    omega
  · have hkl : k < post.length := by omega
    rcases h.fw k post[k] (List.getElem?_eq_getElem hkl) with h1 | ⟨j, y, hj, hy, h1⟩
    · omega
    · obtain ⟨hjl, hjy⟩ := List.getElem?_eq_some_iff.1 hy
      refine ⟨j, ?_, hj⟩
      rw [prF_at E hkl]
      refine mem_prL.2 ⟨y, (mem_predL hE).2 h1, ?_⟩
      rw [← hjy]; exact ordN_at h.nd hjl
theorem mem_prF (h : PostOk E n s post) (hE : ∀ p ∈ E, inG n p) {k q : Nat} (hk : k < post.length) (hq : q < post.length) : q ∈ prF E post k ↔ ((post[q] : Int), (post[k] : Int)) ∈ E := by
  rw [prF_at E hk, mem_prL]
  constructor
  · rintro ⟨p, hp, hpq⟩
    obtain ⟨_, e⟩ := ordN_some hpq
    rw [e]; exact (mem_predL hE).1 hp
  · intro hm
    exact ⟨post[q], (mem_predL hE).2 hm, ordN_at h.nd hq⟩
theorem av_ra (h : PostOk E n s post) (hr : post.length = r + 1) (hE : ∀ p ∈ E, inG n p) {d k : Nat} (hd : d < post.length) (hk : k < post.length) : Av r (prF E post) d k ↔ RA E s (some post[d]) post[k] := by
  obtain ⟨hr', hrs⟩ := h.lastAt hr
  constructor
  · intro ha
    induction ha with
    | root hne => rw [hrs]; exact .root (fun e => hne (nodup_idx h.nd r d hr' hd (by rw [hrs]; injection e with e; exact e.symm)))
    | step hp hm hne ih =>
      rename_i p k
      have hpl : p < post.length := by
        have := (h.domG hr hE).rng k p hm
        omega
      exact .step (ih hpl) ((mem_prF h hE hk hpl).1 hm) (fun e => hne (nodup_idx h.nd k d hk hd (by injection e with e; exact e.symm)))
  · intro ha
    have key : ∀ x, RA E s (some post[d]) x → ∀ k (hk : k < post.length), post[k] = x → Av r (prF E post) d k := by
      intro x hx
      induction hx with
      | root hne =>
        intro k hk e
        obtain rfl : k = r := nodup_idx h.nd k r hk hr' (by rw [e, hrs])
        exact .root (fun e2 => hne (by subst e2; rw [e]))
      | step hp hm hne ih =>
        rename_i p x
        intro k hk e
        obtain ⟨q, hq, hqp⟩ := List.getElem_of_mem ((h.mem p).2 hp.none)
        refine .step (ih q hq hqp) ((mem_prF h hE hk hq).2 (by rw [hqp, e]; exact hm)) (fun e2 => hne (by subst e2; rw [e]))
    exact key _ ha k hk rfl
end

/-! ### What is left to do -/
def wtU (r : Nat) : Option Nat → Nat
  | none => r + 1
  | some j => r - j
def phiU (r : Nat) (U : Nat → Option Nat) : Nat → Nat
  | 0 => 0
  | m + 1 => phiU r U m + wtU r (U m)
theorem phiU_upd {r : Nat} {U : Nat → Option Nat} {u c : Nat} (h : wtU r (some c) < wtU r (U u)) : ∀ m, (m ≤ u → phiU r (upd U u c) m = phiU r U m) ∧ (u < m → phiU r (upd U u c) m < phiU r U m)
  | 0 => ⟨fun _ => rfl, fun h => by omega⟩
  | m + 1 => by
    obtain ⟨h1, h2⟩ := phiU_upd h m
    simp only [phiU]
    refine ⟨fun hm => ?_, fun hm => ?_⟩
    · rw [h1 (by omega), upd_ne (by omega)]
    · by_cases e : m = u
      · subst e
        rw [h1 (Nat.le_refl _), upd_self]
        omega
      · have := h2 (by omega)
        rw [upd_ne e]
        omega
/-- One cell of the tree is written. -/
theorem TreeL.upd {N r : Nat} {post : List Nat} {ordL upL : List Int} {U : Nat → Option Nat} (h : TreeL N r post ordL upL U) {u c : Nat} (hu : u < post.length) (hc : c < post.length) : TreeL N r post ordL (upL.set post[u] (post[c] : Int)) (upd U u c) := by
  have hul : post[u] < upL.length := by rw [h.ul]; exact h.rng u hu
  refine ⟨h.len, h.nd, h.rng, h.ol, by rw [List.length_set]; exact h.ul, h.ord, fun v hv hn => ⟨(h.out v hv hn).1, ?_⟩, fun k hk => ?_⟩
  · rw [List.getElem?_set_ne (fun e => hn (by rw [← e]; exact List.getElem_mem hu))]
    exact (h.out v hv hn).2
  · by_cases e : k = u
    · subst e
      refine ⟨fun h1 => (by rw [upd_self] at h1; cases h1), fun j hj => ?_⟩
      rw [upd_self] at hj
      obtain rfl := Option.some.inj hj
      exact ⟨hc, by rw [List.getElem?_set_self hul]⟩
    · rw [upd_ne e, List.getElem?_set_ne (fun e2 => e (h.nd k u hk hu e2.symm))]
      exact h.up k hk
theorem TreeL.fin {N r : Nat} {post : List Nat} {ordL upL : List Int} {U : Nat → Option Nat} (h : TreeL N r post ordL upL U) (hU : ∀ k, k < r → (U k).isSome) (hr : r < post.length) : TreeF N r post ordL (upL.set post[r] (-1)) U := by
  refine ⟨h.len, h.nd, h.rng, h.ol, by rw [List.length_set]; exact h.ul, h.ord, fun v hv hn => (h.out v hv hn).1, fun k hk hne => ?_⟩
  have hkr : k < r := by have := h.len; omega
  obtain ⟨j, hj⟩ := Option.isSome_iff_exists.1 (hU k hkr)
  obtain ⟨hj', hu⟩ := (h.up k hk).2 j hj
  exact ⟨j, hj, hj', by rw [List.getElem?_set_ne (fun e2 => hne (h.nd r k hr hk e2).symm)]; exact hu⟩
/-- What the finished tree tells. -/
structure TreeOk (E : List (Int × Int)) (n s : Nat) (post : List Nat) (ordL upL : List Int) (r : Nat) (U : Nat → Option Nat) : Prop where
  pok : PostOk E n s post
  tree : TreeF n r post ordL upL U
  wf : UpWf r U
  dom : ∀ k d, k ≤ r → (Up r U k d ↔ ¬ Av r (prF E post) d k)
/-- Dominance, said of the graph. -/
theorem TreeOk.says {E : List (Int × Int)} {n s r : Nat} {post : List Nat} {ordL upL : List Int} {U : Nat → Option Nat} (h : TreeOk E n s post ordL upL r U) (hE : ∀ p ∈ E, inG n p) (a b : Nat) :
    (∃ ka kb, ordN post a = some ka ∧ ordN post b = some kb ∧ Up r U kb ka) ↔ RA E s none a ∧ RA E s none b ∧ ¬ RA E s (some a) b := by
  have hr := h.tree.len
  constructor
  · rintro ⟨ka, kb, h1, h2, h3⟩
    obtain ⟨hka, ea⟩ := ordN_some h1
    obtain ⟨hkb, eb⟩ := ordN_some h2
    refine ⟨(h.pok.mem a).1 (by rw [← ea]; exact List.getElem_mem hka), (h.pok.mem b).1 (by rw [← eb]; exact List.getElem_mem hkb), fun hx => ?_⟩
    refine (h.dom kb ka (by omega)).1 h3 ((av_ra h.pok hr hE hka hkb).2 ?_)
    rw [ea, eb]; exact hx
  · rintro ⟨h1, h2, h3⟩
    obtain ⟨ka, hka, ea⟩ := List.getElem_of_mem ((h.pok.mem a).2 h1)
    obtain ⟨kb, hkb, eb⟩ := List.getElem_of_mem ((h.pok.mem b).2 h2)
    refine ⟨ka, kb, by rw [← ea]; exact ordN_at h.pok.nd hka, by rw [← eb]; exact ordN_at h.pok.nd hkb, (h.dom kb ka (by omega)).2 fun hx => h3 ?_⟩
    have := (av_ra h.pok hr hE hka hkb).1 hx
    rwa [ea, eb] at this
end Go.Proofs.Ythlpndgfphjlkaa
