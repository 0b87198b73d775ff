/-
  Chapter 10: what Check finds of a class (one way: if it finds no error, the class is as it should be).
-/
import Derived.Test.YtafincpkehlcfaaDoorHierG
import Derived.Test.YtafincpkehlcfaaDoorLexA
namespace Go.Proofs.YtafincpkehlcfaaDoor
open Go.RowKit
set_option linter.unusedVariables false

def SomeBoolB (w : World) (e : Ending) (w' : World) : Prop := ∃ b : Bool, e = .returned (.bool b) ∧ Below w.heap.size w w'
theorem isType_some (A : Option Addr) (c b : Nat) (cs : List Cls) (s : ByteArray) (w : World) (hT : TabV w A c b cs) (hs : okStr s) :
    Calls Tryd.prog 52 #[.agg #[.slice A cs.length c, .map (some b)], .string s] w (SomeBoolB w) := by
  have hb0 : Below w.heap.size w (w.alloc (.cells #[.slice A cs.length c, .map (some b)] 51)) := (by repeat (first | assumption | exact Below.refl _ _ | apply bw_alloc | apply bw_drew | apply bw_drewN | apply bw_later | apply bw_step))
  cases hq : (s.toList == [105, 110, 116]) with
  | true =>
    go_enter Tryd.func52, Tryd.ntmps52
    go_wp2_with fail
    go_ret
    exact ⟨_, rfl, hb0⟩
  | false =>
    go_enter Tryd.func52, Tryd.ntmps52
    go_wp2_with fail
    refine (tFind_any A c b cs s _ (hT.mono hb0) hs).mono ?_
    rintro e w1 ⟨rfl, hb1⟩
    go_wp2_with fail
    go_ret
    exact ⟨_, rfl, below_step hb0 hb1⟩

def EqR (l m : List ByteArray) (w : World) (e : Ending) (w' : World) : Prop := ∃ b : Bool, e = .returned (.bool b) ∧ Below w.heap.size w w' ∧ (b = true → l = m)
set_option maxHeartbeats 1000000 in
theorem equalStrs_some (A B : Option Addr) (cA cB : Nat) (l m : List ByteArray) (w : World) (hl : l.length ≤ 8796093022208) (hm : m.length ≤ 8796093022208) (hs : Sl Lay.str w A l) (ht : Sl Lay.str w B m) :
    Calls Tryd.prog 68 #[.slice A l.length cA, .slice B m.length cB] w (EqR l m w) := by
  by_cases hlen : l.length = m.length
  · have HL := Lib.hid hlen
    have h0 : ((l.length : Int) != (m.length : Int)) = false := by simp [hlen]
    have hle : l.length ≤ m.length := by omega
    have hge : m.length ≤ l.length := by omega
    clear hlen
    go_enter Tryd.func68, Tryd.ntmps68
    go_wp2_with fail
    go_loopw [13] (fun i wr => ∃ k : Nat, k ≤ l.length ∧ i = .int .i64 k ∧ (∀ i (hi : i < k) (h1 : i < l.length) (h2 : i < m.length), l[i] = m[i]) ∧ Below w.heap.size w wr) (fun i _ => l.length - (intOf i).toNat)
    case atStart => exact ⟨0, Nat.zero_le _, rfl, fun i hi => by omega, Below.refl _ _⟩
    case round =>
      obtain ⟨k, hk, rfl, HE0, hbw⟩ := hrel
      have HE := Lib.hid HE0
      clear HE0
      by_cases hlt : k < l.length
      · have hlt2 : k < m.length := by omega
        obtain ⟨b, o, rfl, hb, d0⟩ := (hs.mono hbw).str_at hlt
        obtain ⟨b2, o2, rfl, hb2, d2⟩ := (ht.mono hbw).str_at hlt2
        cases hq : (l[k].toList == m[k].toList) with
        | false =>
          go_wp2_with fail
          refine wp_region_RW 9 (by kernel_rfl) (by kernel_rfl) ?_
          refine RW.chunk (f := 0) [0, 1, 2, 3, 4, 5, 6, 7, 8] (by kernel_rfl) ?_
          ((simp only [pickOps, List.filterMap, List.getElem?_toArray, List.getElem?_cons_zero, List.getElem?_cons_succ]); (repeat (go_big_quiet_step (fail))); refine wpQuiet_nil ?_)
          (refine RW.done (by kernel_rfl) (by kernel_rfl) ?_)
          go_wp2_with fail
          go_ret
          exact ⟨_, rfl, hbw.drew, fun h => by cases h⟩
        | true =>
          have hek : l[k] = m[k] := eqS_iff.1 hq
          have HE2 : Hid (∀ i (hi : i < k + 1) (h1 : i < l.length) (h2 : i < m.length), l[i] = m[i]) := fun i hi h1 h2 => by
            by_cases e : i = k
            · subst e; exact hek
            · exact HE.out i (by omega) h1 h2
          clear hek
          go_wp2_with fail
          refine wp_region_RW 9 (by kernel_rfl) (by kernel_rfl) ?_
          refine RW.chunk (f := 0) [0, 1, 2, 3, 4, 5, 6, 7, 8] (by kernel_rfl) ?_
          ((simp only [pickOps, List.filterMap, List.getElem?_toArray, List.getElem?_cons_zero, List.getElem?_cons_succ]); (repeat (go_big_quiet_step (fail))); refine wpQuiet_nil ?_)
          (refine RW.done (by kernel_rfl) (by kernel_rfl) ?_)
          go_wp2_with fail
          go_roundw
          case rel => exact ⟨k + 1, by omega, by go_num, HE2.out, hbw.drew⟩
          case measure => simp [intOf]; omega
      · have HX : Hid (l = m) := List.ext_getElem HL.out (fun i h1 h2 => HE.out i (by omega) h1 h2)
        go_wp2_with fail
        go_ret
        exact ⟨_, rfl, hbw, fun _ => HX.out⟩
  · have h0 : ((l.length : Int) != (m.length : Int)) = true := by simp; omega
    clear hlen
    go_enter Tryd.func68, Tryd.ntmps68
    go_wp2_with fail
    go_ret
    exact ⟨_, rfl, Below.refl _ _, fun h => by cases h⟩

/-- What 'overrides' asks. -/
structure Over (m o : Sg) : Prop where
  st1 : m.static = false
  st2 : o.static = false
  res : m.result = o.result
  par : m.params = o.params
def OverR (m o : Sg) (w : World) (e : Ending) (w' : World) : Prop := ∃ b : Bool, e = .returned (.bool b) ∧ Below w.heap.size w w' ∧ (b = true → Over m o)
set_option maxRecDepth 100000 in
set_option maxHeartbeats 1000000 in
theorem overrides_some (m o : Sg) (A B : Option Addr) (cA cB : Nat) (w : World) (hl : m.params.length ≤ 8796093022208) (hm : o.params.length ≤ 8796093022208) (hs : Sl Lay.str w A m.params) (ht : Sl Lay.str w B o.params) :
    Calls Tryd.prog 53 #[.agg #[.string m.name, .bool m.static, .slice A m.params.length cA, .string m.result], .agg #[.string o.name, .bool o.static, .slice B o.params.length cB, .string o.result]] w (OverR m o w) := by
  cases h1 : m.static with
  | true =>
    go_enter Tryd.func53, Tryd.ntmps53
    go_wp2_with fail
    go_ret
    exact ⟨_, rfl, (by repeat (first | assumption | exact Below.refl _ _ | apply bw_alloc | apply bw_drew | apply bw_drewN | apply bw_later | apply bw_step)), fun h => by cases h⟩
  | false =>
    cases h2 : o.static with
    | true =>
      go_enter Tryd.func53, Tryd.ntmps53
      go_wp2_with fail
      go_ret
      exact ⟨_, rfl, (by repeat (first | assumption | exact Below.refl _ _ | apply bw_alloc | apply bw_drew | apply bw_drewN | apply bw_later | apply bw_step)), fun h => by cases h⟩
    | false =>
      cases h3 : (m.result.toList == o.result.toList) with
      | false =>
        go_enter Tryd.func53, Tryd.ntmps53
        go_wp2_with fail
        go_ret
        exact ⟨_, rfl, (by repeat (first | assumption | exact Below.refl _ _ | apply bw_alloc | apply bw_drew | apply bw_drewN | apply bw_later | apply bw_step)), fun h => by cases h⟩
      | true =>
        have hres := Lib.hid (eqS_iff.1 h3)
        go_enter Tryd.func53, Tryd.ntmps53
        go_wp2_with fail
        have hb0 : Below w.heap.size w ((w.alloc (.cells #[.string m.name, .bool false, .slice A m.params.length cA, .string m.result] 37)).alloc (.cells #[.string o.name, .bool false, .slice B o.params.length cB, .string o.result] 37)) := (by repeat (first | assumption | exact Below.refl _ _ | apply bw_alloc | apply bw_drew | apply bw_drewN | apply bw_later | apply bw_step))
        refine (equalStrs_some A B cA cB m.params o.params _ hl hm (hs.mono hb0) (ht.mono hb0)).mono ?_
        rintro e w1 ⟨b, rfl, hb1, hb2⟩
        have HB := Lib.hid hb2
        clear hb2
        go_wp2_with fail
        go_ret
        exact ⟨b, rfl, below_step hb0 hb1, fun h => ⟨h1, h2, hres.out, HB.out h⟩⟩
end Go.Proofs.YtafincpkehlcfaaDoor
