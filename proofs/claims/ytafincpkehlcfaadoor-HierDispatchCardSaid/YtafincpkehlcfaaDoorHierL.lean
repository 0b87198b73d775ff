/-
  Chapter 10: what Check finds of a field (one way).
-/
import Derived.Test.YtafincpkehlcfaaDoorHierK
namespace Go.Proofs.YtafincpkehlcfaaDoor
open Go.RowKit
set_option linter.unusedVariables false

def StrOk (cs : List Cls) : Prop := ∀ x ∈ cs, (okStr x.name ∧ okStr x.super) ∧ (∀ f ∈ x.fields, okStr f.name ∧ okStr f.typ) ∧ ∀ m ∈ x.methods, okStr m.name ∧ okStr m.result ∧ ∀ p ∈ m.params, okStr p
theorem StrOk.names {cs : List Cls} (h : StrOk cs) : Hid (NamesOk cs) := fun x hx => (h x hx).1
def ErrR (p : Prop) (w : World) (e : Ending) (w' : World) : Prop := ∃ n : Int, e = .returned (.int .i64 n) ∧ Below w.heap.size w w' ∧ (n = 0 → p)
/-- A slice without its first element. -/
theorem tailI {w : World} {b o : Nat} {x : Int} {T : List Int} (h : Sl Lay.int w (some ⟨b, o, none⟩) (x :: T)) {k : Nat} (hk : k < T.length) : b < w.heap.size ∧ w.cell? ⟨b, o + 1 + k, none⟩ = some (.int .i64 T[k]) := by
  obtain ⟨b', o', e, hb, h1⟩ := h.int_at (i := k + 1) (by simp; omega)
  simp only [Option.some.injEq, Addr.mk.injEq] at e
  obtain ⟨rfl, rfl, _⟩ := e
  refine ⟨hb, ?_⟩
  rw [show o + 1 + k = o + (k + 1) by omega, h1]
  rfl

set_option maxRecDepth 100000 in
set_option maxHeartbeats 2000000 in
theorem tField_some (A : Option Addr) (c b bL oL cL : Nat) (cs : List Cls) (i k : Nat) (T : List Int) (w : World) (hl : cs.length ≤ 1000) (hi : i < cs.length) (hk : k < cs[i].fields.length) (hcL : T.length + 1 ≤ cL) (hTl : T.length ≤ 1000)
    (hTb : Hid (∀ x ∈ T, 0 ≤ x ∧ x < (cs.length : Int))) (hsL : Sl Lay.int w (some ⟨bL, oL, none⟩) ((i : Int) :: T)) (hT : TabV w A c b cs) (hok : Hid (StrOk cs)) (hlk : Hid (LensOk cs)) (hkw : KwAt w) :
    Calls Tryd.prog 38 #[.agg #[.slice A cs.length c, .map (some b)], .slice (some ⟨bL, oL, none⟩) (T.length + 1) cL, .int .i64 k] w (ErrR (∀ j ∈ T, fIdx cs cs[i].fields[k].name j < 0) w) := by
  have hfl := (hlk.out _ (List.getElem_mem hi)).1
  obtain ⟨b0, o0, A2, c2, A3, c3, rfl, hb0, d0, d1, d2, d3, hc2, hs2, hc3, hs3⟩ := hT.sl.cls_at hi
  obtain ⟨b2, o2, rfl, hb2, f0, f1⟩ := hs2.fld_at hk
  obtain ⟨bx, ox, ex, hbx0, dL0⟩ := hsL.int_at (i := 0) (by simp)
  simp only [Option.some.injEq, Addr.mk.injEq] at ex
  obtain ⟨rfl, rfl, _⟩ := ex
  have dL0' : w.cell? ⟨bL, oL, none⟩ = some (.int .i64 i) := dL0
  clear dL0
  have ho := (hok.out _ (List.getElem_mem hi)).2.1 _ (List.getElem_mem hk)
  go_enter Tryd.func38, Tryd.ntmps38
  go_wp2_with fail
  have hbt := Box.new w [.slice (some ⟨b0, o0, none⟩) cs.length c, .map (some b)] 51
  refine wp_region_RW 8 (by kernel_rfl) (by kernel_rfl) ?_
  refine RW.chunk (f := 1) [0, 1, 2, 3, 4, 5, 6] (by kernel_rfl) ?_
  ((simp only [pickOps, List.filterMap, List.getElem?_toArray, List.getElem?_cons_zero, List.getElem?_cons_succ]); (repeat (go_big_quiet_step (fail))); refine wpQuiet_nil ?_)
  refine RW.single 7 rfl (by kernel_rfl) (by omega) ?_
  intro K hK
  go_wp2_with fail
  refine hK _ _ (bw_alloc (Below.refl _ _)) ?_
  clear hK
  (refine RW.tail (by kernel_rfl) ?_; (simp only [List.drop_succ_cons, List.drop_zero]))
  go_wp2_with fail
  generalize hW : World.drew _ = W1
  have hb1 : Below w.heap.size w W1 := by rw [← hW]; exact (by repeat (first | assumption | exact Below.refl _ _ | apply bw_alloc | apply bw_drew | apply bw_drewN | apply bw_later | apply bw_step))
  have bt : Box W1 w.heap.size [.slice (some ⟨b0, o0, none⟩) cs.length c, .map (some b)] 51 := by rw [← hW]; exact (by repeat (first | (refine Box.at ?_; (simp; done)) | apply Box.drew | apply Box.alloc | assumption))
  have bc : Box W1 (w.heap.size + 1) [.string cs[i].name, .string cs[i].super, .slice (some ⟨b2, o2, none⟩) cs[i].fields.length c2, .slice A3 cs[i].methods.length c3] 32 := by rw [← hW]; exact (by repeat (first | (refine Box.at ?_; (simp; done)) | apply Box.drew | apply Box.alloc | assumption))
  have bf : Box W1 (w.heap.size + 1 + 1) [.string cs[i].fields[k].name, .string cs[i].fields[k].typ] 68 := by rw [← hW]; exact (by repeat (first | (refine Box.at ?_; (simp; done)) | apply Box.drew | apply Box.alloc | assumption))
  clear hW hbt d0 d1 d2 d3 f0 f1 dL0' hbx0
  refine (ident_some cs[i].fields[k].name _ ho.1 (hkw.mono hb1)).mono ?_
  rintro e w1 ⟨bI, rfl, rfl, hne⟩
  clear hne
  cases bI with
  | false =>
    go_wp2_with fail
    go_ret
    exact ⟨_, rfl, hb1, fun h => by cases h⟩
  | true =>
  have t0 := bt.cell 0 rfl
  have t1 := bt.cell 1 rfl
  have tl := bt.lt
  have g1 := bf.cell 1 rfl
  have gl := bf.lt
  go_wp2_with fail
  refine (isType_some _ c b cs cs[i].fields[k].typ _ (hT.mono hb1) ho.2).mono ?_
  rintro e w2 ⟨bY, rfl, hb2'⟩
  have hbw2 := below_step hb1 hb2'
  have bt2 := bt.mono hb2'
  have bc2 := bc.mono hb2'
  have bf2 := bf.mono hb2'
  clear t0 t1 tl g1 gl bt bc bf hb2' hb1
  cases bY with
  | false =>
    go_wp2_with fail
    go_ret
    exact ⟨_, rfl, hbw2, fun h => by cases h⟩
  | true =>
  have p0 := bc2.cell 0 rfl
  have p1 := bc2.cell 1 rfl
  have p2 := bc2.cell 2 rfl
  have p3 := bc2.cell 3 rfl
  have pl := bc2.lt
  have g0 := bf2.cell 0 rfl
  have gl := bf2.lt
  go_wp2_with fail
  refine (fieldIn_any cs[i] _ A3 c2 c3 cs[i].fields[k].name _ (by omega) (hs2.mono hbw2)).mono ?_
  rintro e w3 ⟨rfl, hb3⟩
  have hbw3 := below_step hbw2 hb3
  have bt3 := bt2.mono hb3
  have bf3 := bf2.mono hb3
  clear p0 p1 p2 p3 pl g0 gl bt2 bc2 bf2 hb3 hbw2
  by_cases hlt : idxI (isFld cs[i].fields[k].name) cs[i].fields < k
  · go_wp2_with fail
    go_ret
    exact ⟨_, rfl, hbw3, fun h => by cases h⟩
  have HQ : Hid ((∀ j ∈ T, fIdx cs cs[i].fields[k].name j < 0) = (∀ j ∈ T, fIdx cs cs[i].fields[k].name j < 0)) := rfl
  rcases Classical.em (cL = 1) with hc1 | hc1
  all_goals
    go_wp2_with fail
    go_loopw [41] (fun v wr => ∃ q : Nat, q ≤ T.length ∧ v = .int .i64 q ∧ (∀ z (hz : z < q) (hz2 : z < T.length), fIdx cs cs[i].fields[k].name T[z] < 0) ∧ Below w3.heap.size w3 wr) (fun v _ => T.length - (intOf v).toNat)
    case atStart => exact ⟨0, Nat.zero_le _, rfl, fun z hz => by omega, Below.refl _ _⟩
    case round =>
      obtain ⟨q, hq, rfl, HN0, hbw⟩ := hrel
      have HN := Lib.hid HN0
      clear HN0
      have bt4 := bt3.mono hbw
      have bf4 := bf3.mono hbw
      have hbw4 := below_step hbw3 hbw
      have t0 := bt4.cell 0 rfl
      have tl := bt4.lt
      have g0 := bf4.cell 0 rfl
      have gl := bf4.lt
      by_cases hqt : q < T.length
      · first
        | (exfalso; omega)
        | (obtain ⟨hbq, dq⟩ := tailI (hsL.mono hbw4) hqt
           have hjb := hTb.out T[q] (List.getElem_mem hqt)
           obtain ⟨j, hjj⟩ : ∃ j : Nat, T[q] = j := ⟨T[q].toNat, by omega⟩
           have HJ := Lib.hid hjj
           rw [hjj] at dq hjb
           clear hjj
           have hjl : j < cs.length := by omega
           have hml := (hlk.out _ (List.getElem_mem hjl)).1
           obtain ⟨b5, o5, A5, c5, A6, c6, e5, hb5, k0, k1, k2, k3, hc5, hs5, hc6, hs6⟩ := (hT.sl.mono hbw4).cls_at hjl
           simp only [Option.some.injEq, Addr.mk.injEq] at e5
           obtain ⟨rfl, rfl, _⟩ := e5
           go_wp2_with fail
           refine wp_region_RW 9 (by kernel_rfl) (by kernel_rfl) ?_
           refine RW.chunk (f := 2) [0, 1, 2, 3, 4, 5, 6] (by kernel_rfl) ?_
           ((simp only [pickOps, List.filterMap, List.getElem?_toArray, List.getElem?_cons_zero, List.getElem?_cons_succ]); (repeat (go_big_quiet_step (fail))); refine wpQuiet_nil ?_)
           refine RW.single 7 rfl (by kernel_rfl) (by omega) ?_
           intro K hK
           go_wp2_with fail
           refine (fieldIn_any cs[j] A5 A6 c5 c6 cs[i].fields[k].name _ (by omega) (hs5.mono (by repeat (first | assumption | exact Below.refl _ _ | apply bw_alloc | apply bw_drew | apply bw_drewN | apply bw_later | apply bw_step)))).mono ?_
           rintro e w6 ⟨rfl, hb6⟩
           go_wp2_with fail
           refine hK _ _ hb6 ?_
           clear hK
           refine RW.chunk (f := 0) [8] (by kernel_rfl) ?_
           ((simp only [pickOps, List.filterMap, List.getElem?_toArray, List.getElem?_cons_zero, List.getElem?_cons_succ]); (repeat (go_big_quiet_step (fail))); refine wpQuiet_nil ?_)
           (refine RW.done (by kernel_rfl) (by kernel_rfl) ?_)
           have hb46 : Below wr.heap.size wr w6 := below_step (below_drewN (Below.refl _ _) 1) hb6
           by_cases hge : 0 ≤ idxI (isFld cs[i].fields[k].name) cs[j].fields
           · go_wp2_with fail
             go_ret
             exact ⟨_, rfl, below_step hbw4 hb46, fun h => by cases h⟩
           · have HN2 : Hid (∀ z (hz : z < q + 1) (hz2 : z < T.length), fIdx cs cs[i].fields[k].name T[z] < 0) := fun z hz hz2 => by
               by_cases ez : z = q
               · subst ez; rw [HJ.out, fIdx_nat hjl]; omega
               · exact HN.out z (by omega) hz2
             go_wp2_with fail
             go_roundw
             case rel => exact ⟨q + 1, by omega, by go_num, HN2.out, below_step hbw hb46⟩
             case measure => simp [intOf]; omega)
      · have HX : Hid (∀ j ∈ T, fIdx cs cs[i].fields[k].name j < 0) := fun j hj => by
          obtain ⟨z, hz, rfl⟩ := List.getElem_of_mem hj
          exact HN.out z (by omega) hz
        go_wp2_with fail
        go_ret
        exact ⟨_, rfl, hbw4, fun _ => HX.out⟩
end Go.Proofs.YtafincpkehlcfaaDoor
