/-
  Chapter 13: equality of units as a Bool, and the program's ir.Same. (Printed by wip/gen/smA.py.)
-/
import Derived.Test.YticpeombillmeaaGreatDoorJUchS
namespace Go.Proofs.YticpeombillmeaaGreatDoor
open Go.RowKit
set_option linter.unusedVariables false

noncomputable def eqv {α : Type} (a b : α) : Bool := @decide (a = b) (Classical.propDecidable _)
theorem eqv_t {α : Type} {a b : α} (h : a = b) : eqv a b = true := @decide_eq_true _ (Classical.propDecidable _) h
theorem eqv_f {α : Type} {a b : α} (h : ¬ a = b) : eqv a b = false := @decide_eq_false _ (Classical.propDecidable _) h
theorem eqv_iff {α : Type} {a b : α} : eqv a b = true ↔ a = b := ⟨fun h => Classical.byContradiction fun hn => (by rw [eqv_f hn] at h; cases h), eqv_t⟩
theorem eqv_ne {α : Type} {a b : α} : eqv a b = false ↔ ¬ a = b := ⟨fun h e => (by rw [eqv_t e] at h; cases h), eqv_f⟩
theorem eqv_comm {α : Type} (a b : α) : eqv a b = eqv b a := by
  by_cases h : a = b
  · rw [eqv_t h, eqv_t h.symm]
  · rw [eqv_f h, eqv_f (fun e => h e.symm)]
theorem eqv_dec {α : Type} {a b : α} (h : Decidable (a = b)) : eqv a b = decide (a = b) := by
  by_cases e : a = b
  · rw [eqv_t e, decide_eq_true e]
  · rw [eqv_f e, decide_eq_false e]
theorem eqv_self {α : Type} (a : α) : eqv a a = true := eqv_t rfl
theorem bsp (b : Bool) : b = false ∨ b = true := by cases b <;> simp
theorem bne_t {a b : Int} (h : (a == b) = false) : (a != b) = true := by simp [bne, h]
theorem bne_f {a b : Int} (h : (a == b) = true) : (a != b) = false := by simp [bne, h]

theorem fld_neq (a b c d : ByteArray) (w : World) : (binOp .neq 66 (.agg #[.string a, .string b]) (.agg #[.string c, .string d])).run Tryz.prog w = .ok (.bool (!eqv (Fld.mk a b) (Fld.mk c d))) w := by
  have h : (a.toList == c.toList && b.toList == d.toList) = eqv (Fld.mk a b) (Fld.mk c d) := by
    by_cases e : Fld.mk a b = Fld.mk c d
    · rw [eqv_t e]; injection e with e1 e2; subst e1 e2; simp
    · rw [eqv_f e, Bool.eq_false_iff]
      intro hh
      rw [Bool.and_eq_true] at hh
      exact e (by rw [eqS_iff.1 hh.1, eqS_iff.1 hh.2])
  rw [← h]
  by_cases h1 : a.toList = c.toList <;> by_cases h2 : b.toList = d.toList <;> simp [go_sem, h1, h2]

set_option maxHeartbeats 1000000 in
theorem eqFlds_any (A B : Option Addr) (cA cB : Nat) (l m : List Fld) (w : World) (hl : l.length ≤ 8796093022208) (hm : m.length ≤ 8796093022208) (hs : Sl Lay.fld w A l) (ht : Sl Lay.fld w B m) :
    Calls Tryz.prog 60 #[.slice A l.length cA, .slice B m.length cB] w fun e w' => e = .returned (.bool (eqv l m)) ∧ Below w.heap.size w w' := by
  obtain ⟨r, HR⟩ : ∃ r, Hid (r = eqv l m) := ⟨_, Lib.hid rfl⟩
  rw [← HR.out]
  by_cases hlen : l.length = m.length
  · have HL := Lib.hid hlen
    have h0 : ((l.length : Int) != (m.length : Int)) = false := by simp [hlen]
    have hle : l.length ≤ m.length := by omega
    have hge : m.length ≤ l.length := by omega
    clear hlen
    go_enter Tryz.func60, Tryz.ntmps60
    go_wp2_with fail
    go_loopw [13] (fun i wr => ∃ k : Nat, k ≤ l.length ∧ i = .int .i64 k ∧ Hid (∀ i (hi : i < k) (h1 : i < l.length) (h2 : i < m.length), l[i] = m[i]) ∧ Below w.heap.size w wr) (fun i _ => l.length - (intOf i).toNat)
    case atStart => exact ⟨0, Nat.zero_le _, rfl, fun i hi => by omega, Below.refl _ _⟩
    case round =>
      obtain ⟨k, hk, rfl, HE, hbw⟩ := hrel
      by_cases hlt : k < l.length
      · have hlt2 : k < m.length := by omega
        obtain ⟨b, o, rfl, hb, d0, d1⟩ := (hs.mono hbw).fld_at hlt
        obtain ⟨b2, o2, rfl, hb2, f0, f1⟩ := (ht.mono hbw).fld_at hlt2
        obtain ⟨q, HQ⟩ : ∃ q, Hid (q = eqv l[k] m[k]) := ⟨_, Lib.hid rfl⟩
        have hfn := fld_neq l[k].name l[k].typ m[k].name m[k].typ
        rw [show eqv (Fld.mk l[k].name l[k].typ) (Fld.mk m[k].name m[k].typ) = q from HQ.out.symm] at hfn
        cases q with
        | false =>
          have HB : Hid (r = false) := by
            show r = false
            rw [HR.out]
            exact eqv_f fun h => by
              have h2 := HQ.out
              subst h
              rw [eqv_t rfl] at h2
              cases h2
          go_wp2_with fail
          refine wp_region_later (by kernel_rfl) (by kernel_rfl) ?_
          repeat (go_big_quiet_step (fail))
          refine wpQuiet_nil ?_
          rintro _ ⟨z, rfl⟩
          go_wp2_with fail
          go_ret
          exact ⟨by rw [HB.out]; rfl, below_step hbw z.h⟩
        | true =>
          have HE2 : Hid (∀ i (hi : i < k + 1) (h1 : i < l.length) (h2 : i < m.length), l[i] = m[i]) := fun i hi h1 h2 => by
            by_cases e : i = k
            · subst e; exact eqv_iff.1 HQ.out.symm
            · exact HE.out i (by omega) h1 h2
          go_wp2_with fail
          refine wp_region_later (by kernel_rfl) (by kernel_rfl) ?_
          repeat (go_big_quiet_step (fail))
          refine wpQuiet_nil ?_
          rintro _ ⟨z, rfl⟩
          go_wp2_with fail
          go_roundw
          case rel => exact ⟨k + 1, by omega, by go_num, HE2, below_step hbw z.h⟩
          case measure => simp [intOf]; omega
      · have HB : Hid (r = true) := by
          show r = true
          rw [HR.out]
          exact eqv_t (List.ext_getElem HL.out (fun i h1 h2 => HE.out i (by omega) h1 h2))
        go_wp2_with fail
        go_ret
        exact ⟨by rw [HB.out]; rfl, hbw⟩
  · have HB : Hid (r = false) := by
      show r = false
      rw [HR.out]
      exact eqv_f fun h => hlen (by rw [h])
    have h0 : ((l.length : Int) != (m.length : Int)) = true := by simp; omega
    clear hlen
    go_enter Tryz.func60, Tryz.ntmps60
    go_wp2_with fail
    go_ret
    exact ⟨by rw [HB.out]; rfl, Below.refl _ _⟩

set_option maxHeartbeats 1000000 in
theorem eqInts_any (A B : Option Addr) (cA cB : Nat) (l m : List Int) (w : World) (hl : l.length ≤ 17592186044416) (hm : m.length ≤ 17592186044416) (hs : Sl Lay.int w A l) (ht : Sl Lay.int w B m) :
    Calls Tryz.prog 92 #[.slice A l.length cA, .slice B m.length cB] w fun e w' => e = .returned (.bool (eqv l m)) ∧ Below w.heap.size w w' := by
  obtain ⟨r, HR⟩ : ∃ r, Hid (r = eqv l m) := ⟨_, Lib.hid rfl⟩
  rw [← HR.out]
  by_cases hlen : l.length = m.length
  · have HL := Lib.hid hlen
    have h0 : ((l.length : Int) != (m.length : Int)) = false := by simp [hlen]
    have hle : l.length ≤ m.length := by omega
    have hge : m.length ≤ l.length := by omega
    clear hlen
    go_enter Tryz.func92, Tryz.ntmps92
    go_wp2_with fail
    go_loopw [13] (fun i wr => ∃ k : Nat, k ≤ l.length ∧ i = .int .i64 k ∧ Hid (∀ i (hi : i < k) (h1 : i < l.length) (h2 : i < m.length), l[i] = m[i]) ∧ Below w.heap.size w wr) (fun i _ => l.length - (intOf i).toNat)
    case atStart => exact ⟨0, Nat.zero_le _, rfl, fun i hi => by omega, Below.refl _ _⟩
    case round =>
      obtain ⟨k, hk, rfl, HE, hbw⟩ := hrel
      by_cases hlt : k < l.length
      · have hlt2 : k < m.length := by omega
        obtain ⟨b, o, rfl, hb, d0⟩ := (hs.mono hbw).int_at hlt
        obtain ⟨b2, o2, rfl, hb2, f0⟩ := (ht.mono hbw).int_at hlt2
        obtain ⟨q, HQ⟩ : ∃ q, Hid (q = eqv l[k] m[k]) := ⟨_, Lib.hid rfl⟩
        have hq : (l[k] != m[k]) = !q := by
          rw [HQ.out]
          by_cases e : l[k] = m[k]
          · rw [eqv_t e, e]; simp
          · rw [eqv_f e]; simpa using e
        cases q with
        | false =>
          have HB : Hid (r = false) := by
            show r = false
            rw [HR.out]
            exact eqv_f fun h => by
              have h2 := HQ.out
              subst h
              rw [eqv_t rfl] at h2
              cases h2
          go_wp2_with fail
          refine wp_region_later (by kernel_rfl) (by kernel_rfl) ?_
          repeat (go_big_quiet_step (fail))
          refine wpQuiet_nil ?_
          rintro _ ⟨z, rfl⟩
          go_wp2_with fail
          go_ret
          exact ⟨by rw [HB.out]; rfl, below_step hbw z.h⟩
        | true =>
          have HE2 : Hid (∀ i (hi : i < k + 1) (h1 : i < l.length) (h2 : i < m.length), l[i] = m[i]) := fun i hi h1 h2 => by
            by_cases e : i = k
            · subst e; exact eqv_iff.1 HQ.out.symm
            · exact HE.out i (by omega) h1 h2
          go_wp2_with fail
          refine wp_region_later (by kernel_rfl) (by kernel_rfl) ?_
          repeat (go_big_quiet_step (fail))
          refine wpQuiet_nil ?_
          rintro _ ⟨z, rfl⟩
          go_wp2_with fail
          go_roundw
          case rel => exact ⟨k + 1, by omega, by go_num, HE2, below_step hbw z.h⟩
          case measure => simp [intOf]; omega
      · have HB : Hid (r = true) := by
          show r = true
          rw [HR.out]
          exact eqv_t (List.ext_getElem HL.out (fun i h1 h2 => HE.out i (by omega) h1 h2))
        go_wp2_with fail
        go_ret
        exact ⟨by rw [HB.out]; rfl, hbw⟩
  · have HB : Hid (r = false) := by
      show r = false
      rw [HR.out]
      exact eqv_f fun h => hlen (by rw [h])
    have h0 : ((l.length : Int) != (m.length : Int)) = true := by simp; omega
    clear hlen
    go_enter Tryz.func92, Tryz.ntmps92
    go_wp2_with fail
    go_ret
    exact ⟨by rw [HB.out]; rfl, Below.refl _ _⟩

set_option maxRecDepth 100000 in
set_option maxHeartbeats 8000000 in
theorem sameSig_any (x y : Sg) (A0 B0 : Option Addr) (cA0 cB0 : Nat) (w : World) (hlx : x.params.length ≤ 8796093022208) (hly : y.params.length ≤ 8796093022208) (hsx : Sl Lay.str w A0 x.params) (hsy : Sl Lay.str w B0 y.params) :
    Calls Tryz.prog 62 #[.agg #[.string x.name, .bool x.static, .slice A0 x.params.length cA0, .string x.result], .agg #[.string y.name, .bool y.static, .slice B0 y.params.length cB0, .string y.result]] w fun e w' => e = .returned (.bool (eqv x y)) ∧ Below w.heap.size w w' := by
  obtain ⟨r, HR⟩ : ∃ r, Hid (r = eqv x y) := ⟨_, Lib.hid rfl⟩
  rw [← HR.out]
  have HC0 := Lib.hid (fun W h => (show Below w.heap.size w W → _ from fun h => (by have := equalStrs_any A0 B0 cA0 cB0 x.params y.params W hlx hly (hsx.mono h) (hsy.mono h); rwa [← eqv_dec] at this)) h)
  obtain ⟨q0, HQ0⟩ : ∃ q, Hid (q = eqv x.params y.params) := ⟨_, Lib.hid rfl⟩
  rw [← HQ0.out] at HC0
  have HB : Hid (r = ((x.name.toList == y.name.toList) && ((x.static == y.static) && ((x.result.toList == y.result.toList) && q0)))) := by
    show r = _
    rw [HR.out, HQ0.out]
    by_cases e : x = y
    · rw [eqv_t e]; subst e; simp [eqv_self]
    · rw [eqv_f e]; symm; rw [Bool.eq_false_iff]; intro h
      simp only [Bool.and_eq_true] at h
      obtain ⟨g0, g1, g2, g3⟩ := h
      have k0 : x.name = y.name := eqS_iff.1 g0
      have k1 : x.static = y.static := eq_of_beq g1
      have k2 : x.result = y.result := eqS_iff.1 g2
      have k3 : x.params = y.params := eqv_iff.1 g3
      refine e ?_
      cases x; cases y; simp only at k0 k1 k2 k3; simp only [Sg.mk.injEq]; exact ⟨k0, k1, k3, k2⟩
  clear HQ0
  rcases bsp (x.name.toList == y.name.toList) with t0 | t0
  rotate_left
  rcases bsp (x.static == y.static) with t1 | t1
  rotate_left
  rcases bsp (x.result.toList == y.result.toList) with t2 | t2
  rotate_left
  rcases bsp q0 with rfl | rfl
  rotate_left
  all_goals
    go_enter Tryz.func62, Tryz.ntmps62
    go_upto_region 1 with fail
    generalize hW : World.alloc (World.alloc _ _) _ = W1 at *
    have hbW : Below w.heap.size w W1 := by rw [← hW]; exact (by repeat (first | assumption | exact Below.refl _ _ | apply bw_alloc | apply bw_drew | apply bw_drewN | apply bw_later | apply bw_step))
    have bx : Box W1 w.heap.size [.string x.name, .bool x.static, .slice A0 x.params.length cA0, .string x.result] 68 := by rw [← hW]; exact (by repeat (first | (refine Box.at ?_; (simp; done)) | apply Box.drew | apply Box.alloc | assumption))
    have bY : Box W1 (w.heap.size + 1) [.string y.name, .bool y.static, .slice B0 y.params.length cB0, .string y.result] 68 := by rw [← hW]; exact (by repeat (first | (refine Box.at ?_; (simp; done)) | apply Box.drew | apply Box.alloc | assumption))
    clear hW
    have xl := bx.lt
    have yl := bY.lt
    have x0 := bx.cell 0 rfl
    have y0 := bY.cell 0 rfl
    have x1 := bx.cell 1 rfl
    have y1 := bY.cell 1 rfl
    have x2 := bx.cell 2 rfl
    have y2 := bY.cell 2 rfl
    have x3 := bx.cell 3 rfl
    have y3 := bY.cell 3 rfl
    refine wp_region_laterN ?_
    try simp only [List.append_eq, List.cons_append, List.nil_append]
    repeat (go_big_quiet_step (first | (go_at_call 91; with_reducible exact Calls.later (HC0.out _ (by exact (by repeat (first | assumption | exact Below.refl _ _ | apply bw_alloc | apply bw_drew | apply bw_drewN | apply bw_later | apply bw_step))))) | fail))
    refine wpQuiet_nil ?_
    rintro _ ⟨z, rfl⟩
    go_wp2_with fail
    go_ret
    exact ⟨by rw [HB.out]; (try rw [t0]); (try rw [t1]); (try rw [t2]); rfl, below_step hbW z.h⟩

set_option maxRecDepth 100000 in
set_option maxHeartbeats 2000000 in
theorem eqSigs_any (A B : Option Addr) (cA cB : Nat) (l m : List Sg) (w : World) (hl : l.length ≤ 8796093022208) (hm : m.length ≤ 8796093022208) (hol : Hid (∀ x ∈ l, x.params.length ≤ 8796093022208)) (hom : Hid (∀ x ∈ m, x.params.length ≤ 8796093022208)) (hs : Sl Lay.sg w A l) (ht : Sl Lay.sg w B m) :
    Calls Tryz.prog 61 #[.slice A l.length cA, .slice B m.length cB, .func (.func 62) #[] #[]] w fun e w' => e = .returned (.bool (eqv l m)) ∧ Below w.heap.size w w' := by
  obtain ⟨r, HR⟩ : ∃ r, Hid (r = eqv l m) := ⟨_, Lib.hid rfl⟩
  rw [← HR.out]
  by_cases hlen : l.length = m.length
  · have HL := Lib.hid hlen
    have h0 : ((l.length : Int) != (m.length : Int)) = false := by simp [hlen]
    have hle : l.length ≤ m.length := by omega
    have hge : m.length ≤ l.length := by omega
    clear hlen
    go_enter Tryz.func61, Tryz.ntmps61
    go_wp2_with fail
    go_loopw [17] (fun i wr => ∃ k : Nat, k ≤ l.length ∧ i = .int .i64 k ∧ Hid (∀ i (hi : i < k) (h1 : i < l.length) (h2 : i < m.length), l[i] = m[i]) ∧ Below w.heap.size w wr) (fun i _ => l.length - (intOf i).toNat)
    case atStart => exact ⟨0, Nat.zero_le _, rfl, fun i hi => by omega, Below.refl _ _⟩
    case round =>
      obtain ⟨k, hk, rfl, HE, hbw⟩ := hrel
      by_cases hlt : k < l.length
      · have hlt2 : k < m.length := by omega
        obtain ⟨b0x, o0x, A0, cA0, rfl, hb0x, x0, x1, x2, x3, hcx, hsx⟩ := (hs.mono hbw).sg_at hlt
        obtain ⟨b0y, o0y, B0, cB0, rfl, hb0y, y0, y1, y2, y3, hcy, hsy⟩ := (ht.mono hbw).sg_at hlt2
        have HC := Lib.hid (fun W h => sameSig_any l[k] m[k] A0 B0 cA0 cB0 W (hol.out _ (List.getElem_mem hlt)) (hom.out _ (List.getElem_mem hlt2)) (hsx.mono h) (hsy.mono h))
        obtain ⟨q, HQ⟩ : ∃ q, Hid (q = eqv l[k] m[k]) := ⟨_, Lib.hid rfl⟩
        rw [← HQ.out] at HC
        cases q with
        | false =>
          have HB : Hid (r = false) := by
            show r = false
            rw [HR.out]
            exact eqv_f fun h => by
              have h2 := HQ.out
              subst h
              rw [eqv_t rfl] at h2
              cases h2
          go_wp2_with fail
          refine (HC.out _ (by exact (by repeat (first | assumption | exact Below.refl _ _ | apply bw_alloc | apply bw_drew | apply bw_drewN | apply bw_later | apply bw_step)))).mono ?_
          rintro e w6 ⟨rfl, hb6⟩
          have hb6' : Below w.heap.size w w6 := below_step (by exact (by repeat (first | assumption | exact Below.refl _ _ | apply bw_alloc | apply bw_drew | apply bw_drewN | apply bw_later | apply bw_step))) hb6
          go_wp2_with fail
          go_ret
          exact ⟨by rw [HB.out]; rfl, hb6'⟩
        | true =>
          have HE2 : Hid (∀ i (hi : i < k + 1) (h1 : i < l.length) (h2 : i < m.length), l[i] = m[i]) := fun i hi h1 h2 => by
            by_cases e : i = k
            · subst e; exact eqv_iff.1 HQ.out.symm
            · exact HE.out i (by omega) h1 h2
          go_wp2_with fail
          refine (HC.out _ (by exact (by repeat (first | assumption | exact Below.refl _ _ | apply bw_alloc | apply bw_drew | apply bw_drewN | apply bw_later | apply bw_step)))).mono ?_
          rintro e w6 ⟨rfl, hb6⟩
          have hb6' : Below w.heap.size w w6 := below_step (by exact (by repeat (first | assumption | exact Below.refl _ _ | apply bw_alloc | apply bw_drew | apply bw_drewN | apply bw_later | apply bw_step))) hb6
          go_wp2_with fail
          go_roundw
          case rel => exact ⟨k + 1, by omega, by go_num, HE2, hb6'⟩
          case measure => simp [intOf]; omega
      · have HB : Hid (r = true) := by
          show r = true
          rw [HR.out]
          exact eqv_t (List.ext_getElem HL.out (fun i h1 h2 => HE.out i (by omega) h1 h2))
        go_wp2_with fail
        go_ret
        exact ⟨by rw [HB.out]; rfl, hbw⟩
  · have HB : Hid (r = false) := by
      show r = false
      rw [HR.out]
      exact eqv_f fun h => hlen (by rw [h])
    have h0 : ((l.length : Int) != (m.length : Int)) = true := by simp; omega
    clear hlen
    go_enter Tryz.func61, Tryz.ntmps61
    go_wp2_with fail
    go_ret
    exact ⟨by rw [HB.out]; rfl, Below.refl _ _⟩

set_option maxRecDepth 100000 in
set_option maxHeartbeats 8000000 in
theorem sameClass_any (x y : Cls) (A0 A1 B0 B1 : Option Addr) (cA0 cA1 cB0 cB1 : Nat) (w : World) (hx : x.fields.length ≤ 8796093022208 ∧ x.methods.length ≤ 8796093022208 ∧ ∀ z ∈ x.methods, z.params.length ≤ 8796093022208) (hy : y.fields.length ≤ 8796093022208 ∧ y.methods.length ≤ 8796093022208 ∧ ∀ z ∈ y.methods, z.params.length ≤ 8796093022208) (hs0 : Sl Lay.fld w A0 x.fields) (ht0 : Sl Lay.fld w B0 y.fields) (hs1 : Sl Lay.sg w A1 x.methods) (ht1 : Sl Lay.sg w B1 y.methods) :
    Calls Tryz.prog 35 #[.agg #[.string x.name, .string x.super, .slice A0 x.fields.length cA0, .slice A1 x.methods.length cA1], .agg #[.string y.name, .string y.super, .slice B0 y.fields.length cB0, .slice B1 y.methods.length cB1]] w fun e w' => e = .returned (.bool (eqv x y)) ∧ Below w.heap.size w w' := by
  obtain ⟨r, HR⟩ : ∃ r, Hid (r = eqv x y) := ⟨_, Lib.hid rfl⟩
  rw [← HR.out]
  have HC0 := Lib.hid (fun W h => (show Below w.heap.size w W → _ from fun h => eqFlds_any A0 B0 cA0 cB0 x.fields y.fields W hx.1 hy.1 (hs0.mono h) (ht0.mono h)) h)
  obtain ⟨q0, HQ0⟩ : ∃ q, Hid (q = eqv x.fields y.fields) := ⟨_, Lib.hid rfl⟩
  rw [← HQ0.out] at HC0
  have HC1 := Lib.hid (fun W h => (show Below w.heap.size w W → _ from fun h => eqSigs_any A1 B1 cA1 cB1 x.methods y.methods W hx.2.1 hy.2.1 (Lib.hid hx.2.2) (Lib.hid hy.2.2) (hs1.mono h) (ht1.mono h)) h)
  obtain ⟨q1, HQ1⟩ : ∃ q, Hid (q = eqv x.methods y.methods) := ⟨_, Lib.hid rfl⟩
  rw [← HQ1.out] at HC1
  have HB : Hid (r = ((x.name.toList == y.name.toList) && ((x.super.toList == y.super.toList) && (q0 && q1)))) := by
    show r = _
    rw [HR.out, HQ0.out, HQ1.out]
    by_cases e : x = y
    · rw [eqv_t e]; subst e; simp [eqv_self]
    · rw [eqv_f e]; symm; rw [Bool.eq_false_iff]; intro h
      simp only [Bool.and_eq_true] at h
      obtain ⟨g0, g1, g2, g3⟩ := h
      have k0 : x.name = y.name := eqS_iff.1 g0
      have k1 : x.super = y.super := eqS_iff.1 g1
      have k2 : x.fields = y.fields := eqv_iff.1 g2
      have k3 : x.methods = y.methods := eqv_iff.1 g3
      refine e ?_
      cases x; cases y; simp only at k0 k1 k2 k3; simp only [Cls.mk.injEq]; exact ⟨k0, k1, k2, k3⟩
  clear HQ0
  clear HQ1
  rcases bsp (x.name.toList == y.name.toList) with t0 | t0
  rotate_left
  rcases bsp (x.super.toList == y.super.toList) with t1 | t1
  rotate_left
  rcases bsp q0 with rfl | rfl
  rotate_left
  rcases bsp q1 with rfl | rfl
  rotate_left
  all_goals
    go_enter Tryz.func35, Tryz.ntmps35
    go_upto_region 1 with fail
    generalize hW : World.alloc (World.alloc _ _) _ = W1 at *
    have hbW : Below w.heap.size w W1 := by rw [← hW]; exact (by repeat (first | assumption | exact Below.refl _ _ | apply bw_alloc | apply bw_drew | apply bw_drewN | apply bw_later | apply bw_step))
    have bx : Box W1 w.heap.size [.string x.name, .string x.super, .slice A0 x.fields.length cA0, .slice A1 x.methods.length cA1] 64 := by rw [← hW]; exact (by repeat (first | (refine Box.at ?_; (simp; done)) | apply Box.drew | apply Box.alloc | assumption))
    have bY : Box W1 (w.heap.size + 1) [.string y.name, .string y.super, .slice B0 y.fields.length cB0, .slice B1 y.methods.length cB1] 64 := by rw [← hW]; exact (by repeat (first | (refine Box.at ?_; (simp; done)) | apply Box.drew | apply Box.alloc | assumption))
    clear hW
    have xl := bx.lt
    have yl := bY.lt
    have x0 := bx.cell 0 rfl
    have y0 := bY.cell 0 rfl
    have x1 := bx.cell 1 rfl
    have y1 := bY.cell 1 rfl
    have x2 := bx.cell 2 rfl
    have y2 := bY.cell 2 rfl
    have x3 := bx.cell 3 rfl
    have y3 := bY.cell 3 rfl
    refine wp_region_laterN ?_
    try simp only [List.append_eq, List.cons_append, List.nil_append]
    repeat (go_big_quiet_step (first | (go_at_call 60; with_reducible exact Calls.later (HC0.out _ (by exact (by repeat (first | assumption | exact Below.refl _ _ | apply bw_alloc | apply bw_drew | apply bw_drewN | apply bw_later | apply bw_step))))) | (go_at_call 61; with_reducible exact Calls.later (HC1.out _ (by exact (by repeat (first | assumption | exact Below.refl _ _ | apply bw_alloc | apply bw_drew | apply bw_drewN | apply bw_later | apply bw_step))))) | fail))
    refine wpQuiet_nil ?_
    rintro _ ⟨z, rfl⟩
    go_wp2_with fail
    go_ret
    exact ⟨by rw [HB.out]; (try rw [t0]); (try rw [t1]); rfl, below_step hbW z.h⟩

set_option maxRecDepth 100000 in
set_option maxHeartbeats 2000000 in
theorem eqClss_any (A B : Option Addr) (cA cB : Nat) (l m : List Cls) (w : World) (hl : l.length ≤ 8796093022208) (hm : m.length ≤ 8796093022208) (hol : Hid (∀ x ∈ l, x.fields.length ≤ 8796093022208 ∧ x.methods.length ≤ 8796093022208 ∧ ∀ z ∈ x.methods, z.params.length ≤ 8796093022208)) (hom : Hid (∀ x ∈ m, x.fields.length ≤ 8796093022208 ∧ x.methods.length ≤ 8796093022208 ∧ ∀ z ∈ x.methods, z.params.length ≤ 8796093022208)) (hs : Sl Lay.cls w A l) (ht : Sl Lay.cls w B m) :
    Calls Tryz.prog 34 #[.slice A l.length cA, .slice B m.length cB, .func (.func 35) #[] #[]] w fun e w' => e = .returned (.bool (eqv l m)) ∧ Below w.heap.size w w' := by
  obtain ⟨r, HR⟩ : ∃ r, Hid (r = eqv l m) := ⟨_, Lib.hid rfl⟩
  rw [← HR.out]
  by_cases hlen : l.length = m.length
  · have HL := Lib.hid hlen
    have h0 : ((l.length : Int) != (m.length : Int)) = false := by simp [hlen]
    have hle : l.length ≤ m.length := by omega
    have hge : m.length ≤ l.length := by omega
    clear hlen
    go_enter Tryz.func34, Tryz.ntmps34
    go_wp2_with fail
    go_loopw [17] (fun i wr => ∃ k : Nat, k ≤ l.length ∧ i = .int .i64 k ∧ Hid (∀ i (hi : i < k) (h1 : i < l.length) (h2 : i < m.length), l[i] = m[i]) ∧ Below w.heap.size w wr) (fun i _ => l.length - (intOf i).toNat)
    case atStart => exact ⟨0, Nat.zero_le _, rfl, fun i hi => by omega, Below.refl _ _⟩
    case round =>
      obtain ⟨k, hk, rfl, HE, hbw⟩ := hrel
      by_cases hlt : k < l.length
      · have hlt2 : k < m.length := by omega
        obtain ⟨b0x, o0x, A0, cA0, A1, cA1, rfl, hb0x, x0, x1, x2, x3, hcx, hsx0, hdx, hsx1⟩ := (hs.mono hbw).cls_at hlt
        obtain ⟨b0y, o0y, B0, cB0, B1, cB1, rfl, hb0y, y0, y1, y2, y3, hcy, hsy0, hdy, hsy1⟩ := (ht.mono hbw).cls_at hlt2
        have HC := Lib.hid (fun W h => sameClass_any l[k] m[k] A0 A1 B0 B1 cA0 cA1 cB0 cB1 W (hol.out _ (List.getElem_mem hlt)) (hom.out _ (List.getElem_mem hlt2)) (hsx0.mono h) (hsy0.mono h) (hsx1.mono h) (hsy1.mono h))
        obtain ⟨q, HQ⟩ : ∃ q, Hid (q = eqv l[k] m[k]) := ⟨_, Lib.hid rfl⟩
        rw [← HQ.out] at HC
        cases q with
        | false =>
          have HB : Hid (r = false) := by
            show r = false
            rw [HR.out]
            exact eqv_f fun h => by
              have h2 := HQ.out
              subst h
              rw [eqv_t rfl] at h2
              cases h2
          go_wp2_with fail
          refine (HC.out _ (by exact (by repeat (first | assumption | exact Below.refl _ _ | apply bw_alloc | apply bw_drew | apply bw_drewN | apply bw_later | apply bw_step)))).mono ?_
          rintro e w6 ⟨rfl, hb6⟩
          have hb6' : Below w.heap.size w w6 := below_step (by exact (by repeat (first | assumption | exact Below.refl _ _ | apply bw_alloc | apply bw_drew | apply bw_drewN | apply bw_later | apply bw_step))) hb6
          go_wp2_with fail
          go_ret
          exact ⟨by rw [HB.out]; rfl, hb6'⟩
        | true =>
          have HE2 : Hid (∀ i (hi : i < k + 1) (h1 : i < l.length) (h2 : i < m.length), l[i] = m[i]) := fun i hi h1 h2 => by
            by_cases e : i = k
            · subst e; exact eqv_iff.1 HQ.out.symm
            · exact HE.out i (by omega) h1 h2
          go_wp2_with fail
          refine (HC.out _ (by exact (by repeat (first | assumption | exact Below.refl _ _ | apply bw_alloc | apply bw_drew | apply bw_drewN | apply bw_later | apply bw_step)))).mono ?_
          rintro e w6 ⟨rfl, hb6⟩
          have hb6' : Below w.heap.size w w6 := below_step (by exact (by repeat (first | assumption | exact Below.refl _ _ | apply bw_alloc | apply bw_drew | apply bw_drewN | apply bw_later | apply bw_step))) hb6
          go_wp2_with fail
          go_roundw
          case rel => exact ⟨k + 1, by omega, by go_num, HE2, hb6'⟩
          case measure => simp [intOf]; omega
      · have HB : Hid (r = true) := by
          show r = true
          rw [HR.out]
          exact eqv_t (List.ext_getElem HL.out (fun i h1 h2 => HE.out i (by omega) h1 h2))
        go_wp2_with fail
        go_ret
        exact ⟨by rw [HB.out]; rfl, hbw⟩
  · have HB : Hid (r = false) := by
      show r = false
      rw [HR.out]
      exact eqv_f fun h => hlen (by rw [h])
    have h0 : ((l.length : Int) != (m.length : Int)) = true := by simp; omega
    clear hlen
    go_enter Tryz.func34, Tryz.ntmps34
    go_wp2_with fail
    go_ret
    exact ⟨by rw [HB.out]; rfl, Below.refl _ _⟩

set_option maxRecDepth 100000 in
set_option maxHeartbeats 8000000 in
theorem sameInstr_any (x y : Ins) (A0 B0 : Option Addr) (cA0 cB0 : Nat) (w : World) (hlx : x.args.length ≤ 17592186044416) (hly : y.args.length ≤ 17592186044416) (hsx : Sl Lay.int w A0 x.args) (hsy : Sl Lay.int w B0 y.args) :
    Calls Tryz.prog 64 #[.agg #[.int .i64 x.op, .int .i64 x.dst, .int .i64 x.a, .int .i64 x.b, .int .i64 x.n, .string x.cls, .string x.name, .slice A0 x.args.length cA0, .int .i64 x.jmp, .int .i64 x.hnd], .agg #[.int .i64 y.op, .int .i64 y.dst, .int .i64 y.a, .int .i64 y.b, .int .i64 y.n, .string y.cls, .string y.name, .slice B0 y.args.length cB0, .int .i64 y.jmp, .int .i64 y.hnd]] w fun e w' => e = .returned (.bool (eqv x y)) ∧ Below w.heap.size w w' := by
  obtain ⟨r, HR⟩ : ∃ r, Hid (r = eqv x y) := ⟨_, Lib.hid rfl⟩
  rw [← HR.out]
  have HC0 := Lib.hid (fun W h => (show Below w.heap.size w W → _ from fun h => eqInts_any A0 B0 cA0 cB0 x.args y.args W hlx hly (hsx.mono h) (hsy.mono h)) h)
  obtain ⟨q0, HQ0⟩ : ∃ q, Hid (q = eqv x.args y.args) := ⟨_, Lib.hid rfl⟩
  rw [← HQ0.out] at HC0
  have HB : Hid (r = ((x.op == y.op) && ((x.dst == y.dst) && ((x.a == y.a) && ((x.b == y.b) && ((x.n == y.n) && ((x.cls.toList == y.cls.toList) && ((x.name.toList == y.name.toList) && (q0 && ((x.jmp == y.jmp) && (x.hnd == y.hnd))))))))))) := by
    show r = _
    rw [HR.out, HQ0.out]
    by_cases e : x = y
    · rw [eqv_t e]; subst e; simp [eqv_self]
    · rw [eqv_f e]; symm; rw [Bool.eq_false_iff]; intro h
      simp only [Bool.and_eq_true] at h
      obtain ⟨g0, g1, g2, g3, g4, g5, g6, g7, g8, g9⟩ := h
      have k0 : x.op = y.op := eq_of_beq g0
      have k1 : x.dst = y.dst := eq_of_beq g1
      have k2 : x.a = y.a := eq_of_beq g2
      have k3 : x.b = y.b := eq_of_beq g3
      have k4 : x.n = y.n := eq_of_beq g4
      have k5 : x.cls = y.cls := eqS_iff.1 g5
      have k6 : x.name = y.name := eqS_iff.1 g6
      have k7 : x.args = y.args := eqv_iff.1 g7
      have k8 : x.jmp = y.jmp := eq_of_beq g8
      have k9 : x.hnd = y.hnd := eq_of_beq g9
      refine e ?_
      cases x; cases y; simp only at k0 k1 k2 k3 k4 k5 k6 k7 k8 k9; simp only [Ins.mk.injEq]; exact ⟨k0, k1, k2, k3, k4, k5, k6, k7, k8, k9⟩
  clear HQ0
  rcases bsp (x.op == y.op) with t0 | t0
  rotate_left
  rcases bsp (x.dst == y.dst) with t1 | t1
  rotate_left
  rcases bsp (x.a == y.a) with t2 | t2
  rotate_left
  rcases bsp (x.b == y.b) with t3 | t3
  rotate_left
  rcases bsp (x.n == y.n) with t4 | t4
  rotate_left
  rcases bsp (x.cls.toList == y.cls.toList) with t5 | t5
  rotate_left
  rcases bsp (x.name.toList == y.name.toList) with t6 | t6
  rotate_left
  rcases bsp q0 with rfl | rfl
  rotate_left
  rcases bsp (x.jmp == y.jmp) with t8 | t8
  rotate_left
  rcases bsp (x.hnd == y.hnd) with t9 | t9
  rotate_left
  all_goals
    go_enter Tryz.func64, Tryz.ntmps64
    go_upto_region 1 with fail
    generalize hW : World.alloc (World.alloc _ _) _ = W1 at *
    have hbW : Below w.heap.size w W1 := by rw [← hW]; exact (by repeat (first | assumption | exact Below.refl _ _ | apply bw_alloc | apply bw_drew | apply bw_drewN | apply bw_later | apply bw_step))
    have bx : Box W1 w.heap.size [.int .i64 x.op, .int .i64 x.dst, .int .i64 x.a, .int .i64 x.b, .int .i64 x.n, .string x.cls, .string x.name, .slice A0 x.args.length cA0, .int .i64 x.jmp, .int .i64 x.hnd] 47 := by rw [← hW]; exact (by repeat (first | (refine Box.at ?_; (simp; done)) | apply Box.drew | apply Box.alloc | assumption))
    have bY : Box W1 (w.heap.size + 1) [.int .i64 y.op, .int .i64 y.dst, .int .i64 y.a, .int .i64 y.b, .int .i64 y.n, .string y.cls, .string y.name, .slice B0 y.args.length cB0, .int .i64 y.jmp, .int .i64 y.hnd] 47 := by rw [← hW]; exact (by repeat (first | (refine Box.at ?_; (simp; done)) | apply Box.drew | apply Box.alloc | assumption))
    clear hW
    have xl := bx.lt
    have yl := bY.lt
    have x0 := bx.cell 0 rfl
    have y0 := bY.cell 0 rfl
    have x1 := bx.cell 1 rfl
    have y1 := bY.cell 1 rfl
    have x2 := bx.cell 2 rfl
    have y2 := bY.cell 2 rfl
    have x3 := bx.cell 3 rfl
    have y3 := bY.cell 3 rfl
    have x4 := bx.cell 4 rfl
    have y4 := bY.cell 4 rfl
    have x5 := bx.cell 5 rfl
    have y5 := bY.cell 5 rfl
    have x6 := bx.cell 6 rfl
    have y6 := bY.cell 6 rfl
    have x7 := bx.cell 7 rfl
    have y7 := bY.cell 7 rfl
    have x8 := bx.cell 8 rfl
    have y8 := bY.cell 8 rfl
    have x9 := bx.cell 9 rfl
    have y9 := bY.cell 9 rfl
    refine wp_region_laterN ?_
    try simp only [List.append_eq, List.cons_append, List.nil_append]
    repeat (go_big_quiet_step (first | (go_at_call 92; with_reducible exact Calls.later (HC0.out _ (by exact (by repeat (first | assumption | exact Below.refl _ _ | apply bw_alloc | apply bw_drew | apply bw_drewN | apply bw_later | apply bw_step))))) | fail))
    refine wpQuiet_nil ?_
    rintro _ ⟨z, rfl⟩
    go_wp2_with fail
    go_ret
    exact ⟨by rw [HB.out]; (try rw [t0]); (try rw [t1]); (try rw [t2]); (try rw [t3]); (try rw [t4]); (try rw [t5]); (try rw [t6]); (try rw [t8]); (try rw [t9]); rfl, below_step hbW z.h⟩

set_option maxRecDepth 100000 in
set_option maxHeartbeats 2000000 in
theorem eqInss_any (A B : Option Addr) (cA cB : Nat) (l m : List Ins) (w : World) (hl : l.length ≤ 8796093022208) (hm : m.length ≤ 8796093022208) (hol : Hid (∀ x ∈ l, x.args.length ≤ 17592186044416)) (hom : Hid (∀ x ∈ m, x.args.length ≤ 17592186044416)) (hs : Sl Lay.ins w A l) (ht : Sl Lay.ins w B m) :
    Calls Tryz.prog 63 #[.slice A l.length cA, .slice B m.length cB, .func (.func 64) #[] #[]] w fun e w' => e = .returned (.bool (eqv l m)) ∧ Below w.heap.size w w' := by
  obtain ⟨r, HR⟩ : ∃ r, Hid (r = eqv l m) := ⟨_, Lib.hid rfl⟩
  rw [← HR.out]
  by_cases hlen : l.length = m.length
  · have HL := Lib.hid hlen
    have h0 : ((l.length : Int) != (m.length : Int)) = false := by simp [hlen]
    have hle : l.length ≤ m.length := by omega
    have hge : m.length ≤ l.length := by omega
    clear hlen
    go_enter Tryz.func63, Tryz.ntmps63
    go_wp2_with fail
    go_loopw [17] (fun i wr => ∃ k : Nat, k ≤ l.length ∧ i = .int .i64 k ∧ Hid (∀ i (hi : i < k) (h1 : i < l.length) (h2 : i < m.length), l[i] = m[i]) ∧ Below w.heap.size w wr) (fun i _ => l.length - (intOf i).toNat)
    case atStart => exact ⟨0, Nat.zero_le _, rfl, fun i hi => by omega, Below.refl _ _⟩
    case round =>
      obtain ⟨k, hk, rfl, HE, hbw⟩ := hrel
      by_cases hlt : k < l.length
      · have hlt2 : k < m.length := by omega
        obtain ⟨b0x, o0x, A0, cA0, rfl, hb0x, x0, x1, x2, x3, x4, x5, x6, x7, x8, x9, hcx, hsx⟩ := (hs.mono hbw).ins_at hlt
        obtain ⟨b0y, o0y, B0, cB0, rfl, hb0y, y0, y1, y2, y3, y4, y5, y6, y7, y8, y9, hcy, hsy⟩ := (ht.mono hbw).ins_at hlt2
        have HC := Lib.hid (fun W h => sameInstr_any l[k] m[k] A0 B0 cA0 cB0 W (hol.out _ (List.getElem_mem hlt)) (hom.out _ (List.getElem_mem hlt2)) (hsx.mono h) (hsy.mono h))
        obtain ⟨q, HQ⟩ : ∃ q, Hid (q = eqv l[k] m[k]) := ⟨_, Lib.hid rfl⟩
        rw [← HQ.out] at HC
        cases q with
        | false =>
          have HB : Hid (r = false) := by
            show r = false
            rw [HR.out]
            exact eqv_f fun h => by
              have h2 := HQ.out
              subst h
              rw [eqv_t rfl] at h2
              cases h2
          go_wp2_with fail
          refine (HC.out _ (by exact (by repeat (first | assumption | exact Below.refl _ _ | apply bw_alloc | apply bw_drew | apply bw_drewN | apply bw_later | apply bw_step)))).mono ?_
          rintro e w6 ⟨rfl, hb6⟩
          have hb6' : Below w.heap.size w w6 := below_step (by exact (by repeat (first | assumption | exact Below.refl _ _ | apply bw_alloc | apply bw_drew | apply bw_drewN | apply bw_later | apply bw_step))) hb6
          go_wp2_with fail
          go_ret
          exact ⟨by rw [HB.out]; rfl, hb6'⟩
        | true =>
          have HE2 : Hid (∀ i (hi : i < k + 1) (h1 : i < l.length) (h2 : i < m.length), l[i] = m[i]) := fun i hi h1 h2 => by
            by_cases e : i = k
            · subst e; exact eqv_iff.1 HQ.out.symm
            · exact HE.out i (by omega) h1 h2
          go_wp2_with fail
          refine (HC.out _ (by exact (by repeat (first | assumption | exact Below.refl _ _ | apply bw_alloc | apply bw_drew | apply bw_drewN | apply bw_later | apply bw_step)))).mono ?_
          rintro e w6 ⟨rfl, hb6⟩
          have hb6' : Below w.heap.size w w6 := below_step (by exact (by repeat (first | assumption | exact Below.refl _ _ | apply bw_alloc | apply bw_drew | apply bw_drewN | apply bw_later | apply bw_step))) hb6
          go_wp2_with fail
          go_roundw
          case rel => exact ⟨k + 1, by omega, by go_num, HE2, hb6'⟩
          case measure => simp [intOf]; omega
      · have HB : Hid (r = true) := by
          show r = true
          rw [HR.out]
          exact eqv_t (List.ext_getElem HL.out (fun i h1 h2 => HE.out i (by omega) h1 h2))
        go_wp2_with fail
        go_ret
        exact ⟨by rw [HB.out]; rfl, hbw⟩
  · have HB : Hid (r = false) := by
      show r = false
      rw [HR.out]
      exact eqv_f fun h => hlen (by rw [h])
    have h0 : ((l.length : Int) != (m.length : Int)) = true := by simp; omega
    clear hlen
    go_enter Tryz.func63, Tryz.ntmps63
    go_wp2_with fail
    go_ret
    exact ⟨by rw [HB.out]; rfl, Below.refl _ _⟩

set_option maxRecDepth 100000 in
set_option maxHeartbeats 8000000 in
theorem sameFunc_any (x y : Fun) (A0 A1 B0 B1 : Option Addr) (cA0 cA1 cB0 cB1 : Nat) (w : World) (hx : x.vars.length ≤ 8796093022208 ∧ x.code.length ≤ 8796093022208 ∧ ∀ z ∈ x.code, z.args.length ≤ 17592186044416) (hy : y.vars.length ≤ 8796093022208 ∧ y.code.length ≤ 8796093022208 ∧ ∀ z ∈ y.code, z.args.length ≤ 17592186044416) (hs0 : Sl Lay.fld w A0 x.vars) (ht0 : Sl Lay.fld w B0 y.vars) (hs1 : Sl Lay.ins w A1 x.code) (ht1 : Sl Lay.ins w B1 y.code) :
    Calls Tryz.prog 37 #[.agg #[.string x.cls, .string x.name, .bool x.static, .int .i64 x.nparams, .slice A0 x.vars.length cA0, .string x.result, .slice A1 x.code.length cA1], .agg #[.string y.cls, .string y.name, .bool y.static, .int .i64 y.nparams, .slice B0 y.vars.length cB0, .string y.result, .slice B1 y.code.length cB1]] w fun e w' => e = .returned (.bool (eqv x y)) ∧ Below w.heap.size w w' := by
  obtain ⟨r, HR⟩ : ∃ r, Hid (r = eqv x y) := ⟨_, Lib.hid rfl⟩
  rw [← HR.out]
  have HC0 := Lib.hid (fun W h => (show Below w.heap.size w W → _ from fun h => eqFlds_any A0 B0 cA0 cB0 x.vars y.vars W hx.1 hy.1 (hs0.mono h) (ht0.mono h)) h)
  obtain ⟨q0, HQ0⟩ : ∃ q, Hid (q = eqv x.vars y.vars) := ⟨_, Lib.hid rfl⟩
  rw [← HQ0.out] at HC0
  have HC1 := Lib.hid (fun W h => (show Below w.heap.size w W → _ from fun h => eqInss_any A1 B1 cA1 cB1 x.code y.code W hx.2.1 hy.2.1 (Lib.hid hx.2.2) (Lib.hid hy.2.2) (hs1.mono h) (ht1.mono h)) h)
  obtain ⟨q1, HQ1⟩ : ∃ q, Hid (q = eqv x.code y.code) := ⟨_, Lib.hid rfl⟩
  rw [← HQ1.out] at HC1
  have HB : Hid (r = ((x.cls.toList == y.cls.toList) && ((x.name.toList == y.name.toList) && ((x.static == y.static) && ((x.nparams == y.nparams) && (q0 && ((x.result.toList == y.result.toList) && q1))))))) := by
    show r = _
    rw [HR.out, HQ0.out, HQ1.out]
    by_cases e : x = y
    · rw [eqv_t e]; subst e; simp [eqv_self]
    · rw [eqv_f e]; symm; rw [Bool.eq_false_iff]; intro h
      simp only [Bool.and_eq_true] at h
      obtain ⟨g0, g1, g2, g3, g4, g5, g6⟩ := h
      have k0 : x.cls = y.cls := eqS_iff.1 g0
      have k1 : x.name = y.name := eqS_iff.1 g1
      have k2 : x.static = y.static := eq_of_beq g2
      have k3 : x.nparams = y.nparams := eq_of_beq g3
      have k4 : x.vars = y.vars := eqv_iff.1 g4
      have k5 : x.result = y.result := eqS_iff.1 g5
      have k6 : x.code = y.code := eqv_iff.1 g6
      refine e ?_
      cases x; cases y; simp only at k0 k1 k2 k3 k4 k5 k6; simp only [Fun.mk.injEq]; exact ⟨k0, k1, k2, k3, k4, k5, k6⟩
  clear HQ0
  clear HQ1
  rcases bsp (x.cls.toList == y.cls.toList) with t0 | t0
  rotate_left
  rcases bsp (x.name.toList == y.name.toList) with t1 | t1
  rotate_left
  rcases bsp (x.static == y.static) with t2 | t2
  rotate_left
  rcases bsp (x.nparams == y.nparams) with t3 | t3
  rotate_left
  rcases bsp q0 with rfl | rfl
  rotate_left
  rcases bsp (x.result.toList == y.result.toList) with t5 | t5
  rotate_left
  rcases bsp q1 with rfl | rfl
  rotate_left
  all_goals
    go_enter Tryz.func37, Tryz.ntmps37
    go_upto_region 1 with fail
    generalize hW : World.alloc (World.alloc _ _) _ = W1 at *
    have hbW : Below w.heap.size w W1 := by rw [← hW]; exact (by repeat (first | assumption | exact Below.refl _ _ | apply bw_alloc | apply bw_drew | apply bw_drewN | apply bw_later | apply bw_step))
    have bx : Box W1 w.heap.size [.string x.cls, .string x.name, .bool x.static, .int .i64 x.nparams, .slice A0 x.vars.length cA0, .string x.result, .slice A1 x.code.length cA1] 43 := by rw [← hW]; exact (by repeat (first | (refine Box.at ?_; (simp; done)) | apply Box.drew | apply Box.alloc | assumption))
    have bY : Box W1 (w.heap.size + 1) [.string y.cls, .string y.name, .bool y.static, .int .i64 y.nparams, .slice B0 y.vars.length cB0, .string y.result, .slice B1 y.code.length cB1] 43 := by rw [← hW]; exact (by repeat (first | (refine Box.at ?_; (simp; done)) | apply Box.drew | apply Box.alloc | assumption))
    clear hW
    have xl := bx.lt
    have yl := bY.lt
    have x0 := bx.cell 0 rfl
    have y0 := bY.cell 0 rfl
    have x1 := bx.cell 1 rfl
    have y1 := bY.cell 1 rfl
    have x2 := bx.cell 2 rfl
    have y2 := bY.cell 2 rfl
    have x3 := bx.cell 3 rfl
    have y3 := bY.cell 3 rfl
    have x4 := bx.cell 4 rfl
    have y4 := bY.cell 4 rfl
    have x5 := bx.cell 5 rfl
    have y5 := bY.cell 5 rfl
    have x6 := bx.cell 6 rfl
    have y6 := bY.cell 6 rfl
    refine wp_region_laterN ?_
    try simp only [List.append_eq, List.cons_append, List.nil_append]
    repeat (go_big_quiet_step (first | (go_at_call 60; with_reducible exact Calls.later (HC0.out _ (by exact (by repeat (first | assumption | exact Below.refl _ _ | apply bw_alloc | apply bw_drew | apply bw_drewN | apply bw_later | apply bw_step))))) | (go_at_call 63; with_reducible exact Calls.later (HC1.out _ (by exact (by repeat (first | assumption | exact Below.refl _ _ | apply bw_alloc | apply bw_drew | apply bw_drewN | apply bw_later | apply bw_step))))) | fail))
    refine wpQuiet_nil ?_
    rintro _ ⟨z, rfl⟩
    go_wp2_with fail
    go_ret
    exact ⟨by rw [HB.out]; (try rw [t0]); (try rw [t1]); (try rw [t2]); (try rw [t3]); (try rw [t5]); rfl, below_step hbW z.h⟩

set_option maxRecDepth 100000 in
set_option maxHeartbeats 2000000 in
theorem eqFuns_any (A B : Option Addr) (cA cB : Nat) (l m : List Fun) (w : World) (hl : l.length ≤ 8796093022208) (hm : m.length ≤ 8796093022208) (hol : Hid (∀ x ∈ l, x.vars.length ≤ 8796093022208 ∧ x.code.length ≤ 8796093022208 ∧ ∀ z ∈ x.code, z.args.length ≤ 17592186044416)) (hom : Hid (∀ x ∈ m, x.vars.length ≤ 8796093022208 ∧ x.code.length ≤ 8796093022208 ∧ ∀ z ∈ x.code, z.args.length ≤ 17592186044416)) (hs : Sl Lay.fun w A l) (ht : Sl Lay.fun w B m) :
    Calls Tryz.prog 36 #[.slice A l.length cA, .slice B m.length cB, .func (.func 37) #[] #[]] w fun e w' => e = .returned (.bool (eqv l m)) ∧ Below w.heap.size w w' := by
  obtain ⟨r, HR⟩ : ∃ r, Hid (r = eqv l m) := ⟨_, Lib.hid rfl⟩
  rw [← HR.out]
  by_cases hlen : l.length = m.length
  · have HL := Lib.hid hlen
    have h0 : ((l.length : Int) != (m.length : Int)) = false := by simp [hlen]
    have hle : l.length ≤ m.length := by omega
    have hge : m.length ≤ l.length := by omega
    clear hlen
    go_enter Tryz.func36, Tryz.ntmps36
    go_wp2_with fail
    go_loopw [17] (fun i wr => ∃ k : Nat, k ≤ l.length ∧ i = .int .i64 k ∧ Hid (∀ i (hi : i < k) (h1 : i < l.length) (h2 : i < m.length), l[i] = m[i]) ∧ Below w.heap.size w wr) (fun i _ => l.length - (intOf i).toNat)
    case atStart => exact ⟨0, Nat.zero_le _, rfl, fun i hi => by omega, Below.refl _ _⟩
    case round =>
      obtain ⟨k, hk, rfl, HE, hbw⟩ := hrel
      by_cases hlt : k < l.length
      · have hlt2 : k < m.length := by omega
        obtain ⟨b0x, o0x, A0, cA0, A1, cA1, rfl, hb0x, x0, x1, x2, x3, x4, x5, x6, hcx, hsx0, hdx, hsx1⟩ := (hs.mono hbw).fun_at hlt
        obtain ⟨b0y, o0y, B0, cB0, B1, cB1, rfl, hb0y, y0, y1, y2, y3, y4, y5, y6, hcy, hsy0, hdy, hsy1⟩ := (ht.mono hbw).fun_at hlt2
        have HC := Lib.hid (fun W h => sameFunc_any l[k] m[k] A0 A1 B0 B1 cA0 cA1 cB0 cB1 W (hol.out _ (List.getElem_mem hlt)) (hom.out _ (List.getElem_mem hlt2)) (hsx0.mono h) (hsy0.mono h) (hsx1.mono h) (hsy1.mono h))
        obtain ⟨q, HQ⟩ : ∃ q, Hid (q = eqv l[k] m[k]) := ⟨_, Lib.hid rfl⟩
        rw [← HQ.out] at HC
        cases q with
        | false =>
          have HB : Hid (r = false) := by
            show r = false
            rw [HR.out]
            exact eqv_f fun h => by
              have h2 := HQ.out
              subst h
              rw [eqv_t rfl] at h2
              cases h2
          go_wp2_with fail
          refine (HC.out _ (by exact (by repeat (first | assumption | exact Below.refl _ _ | apply bw_alloc | apply bw_drew | apply bw_drewN | apply bw_later | apply bw_step)))).mono ?_
          rintro e w6 ⟨rfl, hb6⟩
          have hb6' : Below w.heap.size w w6 := below_step (by exact (by repeat (first | assumption | exact Below.refl _ _ | apply bw_alloc | apply bw_drew | apply bw_drewN | apply bw_later | apply bw_step))) hb6
          go_wp2_with fail
          go_ret
          exact ⟨by rw [HB.out]; rfl, hb6'⟩
        | true =>
          have HE2 : Hid (∀ i (hi : i < k + 1) (h1 : i < l.length) (h2 : i < m.length), l[i] = m[i]) := fun i hi h1 h2 => by
            by_cases e : i = k
            · subst e; exact eqv_iff.1 HQ.out.symm
            · exact HE.out i (by omega) h1 h2
          go_wp2_with fail
          refine (HC.out _ (by exact (by repeat (first | assumption | exact Below.refl _ _ | apply bw_alloc | apply bw_drew | apply bw_drewN | apply bw_later | apply bw_step)))).mono ?_
          rintro e w6 ⟨rfl, hb6⟩
          have hb6' : Below w.heap.size w w6 := below_step (by exact (by repeat (first | assumption | exact Below.refl _ _ | apply bw_alloc | apply bw_drew | apply bw_drewN | apply bw_later | apply bw_step))) hb6
          go_wp2_with fail
          go_roundw
          case rel => exact ⟨k + 1, by omega, by go_num, HE2, hb6'⟩
          case measure => simp [intOf]; omega
      · have HB : Hid (r = true) := by
          show r = true
          rw [HR.out]
          exact eqv_t (List.ext_getElem HL.out (fun i h1 h2 => HE.out i (by omega) h1 h2))
        go_wp2_with fail
        go_ret
        exact ⟨by rw [HB.out]; rfl, hbw⟩
  · have HB : Hid (r = false) := by
      show r = false
      rw [HR.out]
      exact eqv_f fun h => hlen (by rw [h])
    have h0 : ((l.length : Int) != (m.length : Int)) = true := by simp; omega
    clear hlen
    go_enter Tryz.func36, Tryz.ntmps36
    go_wp2_with fail
    go_ret
    exact ⟨by rw [HB.out]; rfl, Below.refl _ _⟩

set_option maxRecDepth 100000 in
set_option maxHeartbeats 8000000 in
theorem irSame_any (x y : Unt) (A0 A1 B0 B1 : Option Addr) (cA0 cA1 cB0 cB1 : Nat) (w : World) (hx0 : x.classes.length ≤ 8796093022208) (hx1 : LensOk x.classes) (hx2 : x.funcs.length ≤ 8796093022208) (hx3 : ∀ f ∈ x.funcs, FunOk f) (hsx0 : Sl Lay.cls w A0 x.classes) (hsx1 : Sl Lay.fun w A1 x.funcs) (hy0 : y.classes.length ≤ 8796093022208) (hy1 : LensOk y.classes) (hy2 : y.funcs.length ≤ 8796093022208) (hy3 : ∀ f ∈ y.funcs, FunOk f) (hsy0 : Sl Lay.cls w B0 y.classes) (hsy1 : Sl Lay.fun w B1 y.funcs) :
    Calls Tryz.prog 12 #[.agg #[.slice A0 x.classes.length cA0, .slice A1 x.funcs.length cA1, .int .i64 x.main], .agg #[.slice B0 y.classes.length cB0, .slice B1 y.funcs.length cB1, .int .i64 y.main]] w fun e w' => e = .returned (.bool (eqv x y)) ∧ Below w.heap.size w w' := by
  obtain ⟨r, HR⟩ : ∃ r, Hid (r = eqv x y) := ⟨_, Lib.hid rfl⟩
  rw [← HR.out]
  have HC0 := Lib.hid (fun W h => (show Below w.heap.size w W → _ from fun h => eqClss_any A0 B0 cA0 cB0 x.classes y.classes W hx0 hy0 (Lib.hid hx1) (Lib.hid hy1) (hsx0.mono h) (hsy0.mono h)) h)
  obtain ⟨q0, HQ0⟩ : ∃ q, Hid (q = eqv x.classes y.classes) := ⟨_, Lib.hid rfl⟩
  rw [← HQ0.out] at HC0
  have HC1 := Lib.hid (fun W h => (show Below w.heap.size w W → _ from fun h => eqFuns_any A1 B1 cA1 cB1 x.funcs y.funcs W hx2 hy2 (Lib.hid fun f hf => ⟨(hx3 f hf).hvl, (hx3 f hf).hcl, fun z hz => ((hx3 f hf).hio z hz).2⟩) (Lib.hid fun f hf => ⟨(hy3 f hf).hvl, (hy3 f hf).hcl, fun z hz => ((hy3 f hf).hio z hz).2⟩) (hsx1.mono h) (hsy1.mono h)) h)
  obtain ⟨q1, HQ1⟩ : ∃ q, Hid (q = eqv x.funcs y.funcs) := ⟨_, Lib.hid rfl⟩
  rw [← HQ1.out] at HC1
  have HB : Hid (r = ((x.main == y.main) && (q0 && q1))) := by
    show r = _
    rw [HR.out, HQ0.out, HQ1.out]
    by_cases e : x = y
    · rw [eqv_t e]; subst e; simp [eqv_self]
    · rw [eqv_f e]; symm; rw [Bool.eq_false_iff]; intro h
      simp only [Bool.and_eq_true] at h
      obtain ⟨g0, g1, g2⟩ := h
      have k0 : x.main = y.main := eq_of_beq g0
      have k1 : x.classes = y.classes := eqv_iff.1 g1
      have k2 : x.funcs = y.funcs := eqv_iff.1 g2
      refine e ?_
      cases x; cases y; simp only at k0 k1 k2; simp only [Unt.mk.injEq]; exact ⟨k1, k2, k0⟩
  clear HQ0
  clear HQ1
  rcases bsp (x.main == y.main) with t0 | t0
  rotate_left
  rcases bsp q0 with rfl | rfl
  rotate_left
  rcases bsp q1 with rfl | rfl
  rotate_left
  all_goals
    go_enter Tryz.func12, Tryz.ntmps12
    go_upto_region 1 with fail
    generalize hW : World.alloc (World.alloc _ _) _ = W1 at *
    have hbW : Below w.heap.size w W1 := by rw [← hW]; exact (by repeat (first | assumption | exact Below.refl _ _ | apply bw_alloc | apply bw_drew | apply bw_drewN | apply bw_later | apply bw_step))
    have bx : Box W1 w.heap.size [.slice A0 x.classes.length cA0, .slice A1 x.funcs.length cA1, .int .i64 x.main] 27 := by rw [← hW]; exact (by repeat (first | (refine Box.at ?_; (simp; done)) | apply Box.drew | apply Box.alloc | assumption))
    have bY : Box W1 (w.heap.size + 1) [.slice B0 y.classes.length cB0, .slice B1 y.funcs.length cB1, .int .i64 y.main] 27 := by rw [← hW]; exact (by repeat (first | (refine Box.at ?_; (simp; done)) | apply Box.drew | apply Box.alloc | assumption))
    clear hW
    have xl := bx.lt
    have yl := bY.lt
    have x0 := bx.cell 0 rfl
    have y0 := bY.cell 0 rfl
    have x1 := bx.cell 1 rfl
    have y1 := bY.cell 1 rfl
    have x2 := bx.cell 2 rfl
    have y2 := bY.cell 2 rfl
    refine wp_region_laterN ?_
    try simp only [List.append_eq, List.cons_append, List.nil_append]
    repeat (go_big_quiet_step (first | (go_at_call 34; with_reducible exact Calls.later (HC0.out _ (by exact (by repeat (first | assumption | exact Below.refl _ _ | apply bw_alloc | apply bw_drew | apply bw_drewN | apply bw_later | apply bw_step))))) | (go_at_call 36; with_reducible exact Calls.later (HC1.out _ (by exact (by repeat (first | assumption | exact Below.refl _ _ | apply bw_alloc | apply bw_drew | apply bw_drewN | apply bw_later | apply bw_step))))) | fail))
    refine wpQuiet_nil ?_
    rintro _ ⟨z, rfl⟩
    go_wp2_with fail
    go_ret
    exact ⟨by rw [HB.out]; (try rw [t0]); rfl, below_step hbW z.h⟩
end Go.Proofs.YticpeombillmeaaGreatDoor
