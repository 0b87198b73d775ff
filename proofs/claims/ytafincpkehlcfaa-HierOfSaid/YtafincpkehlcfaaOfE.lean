/-
  Chapter 10: the reference's Same at two hierarchies of the same data.
-/
import Derived.Test.YtafincpkehlcfaaOfD
import Derived.Test.YtafincpkehlcfaaHierB
namespace Go.Proofs.Ytafincpkehlcfaa
open Go.RowKit
set_option linter.unusedVariables false

set_option maxRecDepth 100000 in
set_option maxHeartbeats 1000000 in
theorem sameSig_yes (s t : Sg) (A B : Option Addr) (cA cB : Nat) (w : World) (hl : s.params.length ≤ 8796093022208) (hm : t.params.length ≤ 8796093022208) (hp : Hid (s.params = t.params)) (hr : Hid (s.result = t.result)) (hs : Sl Lay.str w A s.params) (ht : Sl Lay.str w B t.params) :
    Calls Try.prog 8 #[.agg #[.string s.name, .bool s.static, .slice A s.params.length cA, .string s.result], .agg #[.string t.name, .bool t.static, .slice B t.params.length cB, .string t.result]] w fun e w' => e = .returned (.bool true) ∧ Below w.heap.size w w' := by
  have hlen : ((s.params.length : Int) != (t.params.length : Int)) = false := by rw [hp.out]; simp
  have hle : s.params.length ≤ t.params.length := by rw [hp.out]; omega
  have hres : (s.result.toList == t.result.toList) = true := eqS_iff.2 hr.out
  have hres2 : (s.result.toList != t.result.toList) = false := by simp [hr.out]
  have HEQ : Hid (∀ i (h1 : i < s.params.length) (h2 : i < t.params.length), (s.params[i].toList == t.params[i].toList) = true) := fun i h1 h2 => eqS_iff.2 (by simp only [hp.out])
  have hb0 : Below w.heap.size w ((w.alloc (.cells #[.string s.name, .bool s.static, .slice A s.params.length cA, .string s.result] 40)).alloc (.cells #[.string t.name, .bool t.static, .slice B t.params.length cB, .string t.result] 40)) := (by repeat (first | assumption | exact Below.refl _ _ | apply bw_alloc | apply bw_drew | apply bw_drewN | apply bw_later | apply bw_step))
  have b1 : Box ((w.alloc (.cells #[.string s.name, .bool s.static, .slice A s.params.length cA, .string s.result] 40)).alloc (.cells #[.string t.name, .bool t.static, .slice B t.params.length cB, .string t.result] 40)) w.heap.size [.string s.name, .bool s.static, .slice A s.params.length cA, .string s.result] 40 := (by repeat (first | (refine Box.at ?_; (simp; done)) | apply Box.drew | apply Box.alloc | assumption))
  have b2 : Box ((w.alloc (.cells #[.string s.name, .bool s.static, .slice A s.params.length cA, .string s.result] 40)).alloc (.cells #[.string t.name, .bool t.static, .slice B t.params.length cB, .string t.result] 40)) (w.heap.size + 1) [.string t.name, .bool t.static, .slice B t.params.length cB, .string t.result] 40 := (by repeat (first | (refine Box.at ?_; (simp; done)) | apply Box.drew | apply Box.alloc | assumption))
  go_enter Try.func8, Try.ntmps8
  go_wp2_with fail
  generalize ((w.alloc (.cells #[.string s.name, .bool s.static, .slice A s.params.length cA, .string s.result] 40)).alloc (.cells #[.string t.name, .bool t.static, .slice B t.params.length cB, .string t.result] 40)) = W at *
  go_loopw [5] (fun v wr => ∃ k : Nat, k ≤ s.params.length ∧ v = .int .i64 k ∧ Below W.heap.size W wr) (fun v _ => s.params.length - (intOf v).toNat)
  case atStart => exact ⟨0, Nat.zero_le _, rfl, Below.refl _ _⟩
  case round =>
    obtain ⟨k, hk, rfl, hbw⟩ := hrel
    have b3 := b1.mono hbw
    have b4 := b2.mono hbw
    have x2 := b3.cell 2 rfl
    have xl := b3.lt
    have y2 := b4.cell 2 rfl
    have yl := b4.lt
    have hbw2 := below_step hb0 hbw
    by_cases hlt : k < s.params.length
    · have hlt2 : k < t.params.length := by omega
      obtain ⟨bs, os, rfl, hbs, ds⟩ := (hs.mono hbw2).str_at hlt
      obtain ⟨bt, ot, rfl, hbt, dt⟩ := (ht.mono hbw2).str_at hlt2
      have hq := HEQ.out k hlt hlt2
      go_wp2_with fail
      refine wp_region_RW 11 (by kernel_rfl) (by kernel_rfl) ?_
      refine RW.chunk (f := 0) [0, 1, 2, 3, 4, 5, 6, 7, 8, 9, 10] (by kernel_rfl) ?_
      ((simp only [pickOps, List.filterMap, List.getElem?_toArray, List.getElem?_cons_zero, List.getElem?_cons_succ]); (repeat (go_big_quiet_step (fail))); refine wpQuiet_nil ?_)
      (refine RW.done (by kernel_rfl) (by kernel_rfl) ?_)
      go_wp2_with fail
      go_roundw
      case rel => exact ⟨k + 1, by omega, by go_num, hbw.drew⟩
      case measure => simp [intOf]; omega
    · go_wp2_with fail
      go_ret
      exact ⟨rfl, hbw2⟩

theorem fldGuard : Try.prog.eqGuardType Try.prog.depth 37 = false := by kernel_rfl
theorem fld_neq (a b : ByteArray) (w : World) : (binOp .neq 37 (.agg #[.string a, .string b]) (.agg #[.string a, .string b])).run Try.prog w = .ok (.bool false) w := by
  simp [go_sem]
/-- What Same asks of the lengths. -/
def LenOk (l : List Cls) : Prop := ∀ x ∈ l, x.fields.length ≤ 8796093022208 ∧ x.methods.length ≤ 8796093022208 ∧ ∀ m ∈ x.methods, m.params.length ≤ 8796093022208

set_option maxRecDepth 100000 in
set_option maxHeartbeats 4000000 in
theorem same_yes (A B : Option Addr) (n : Nat) (cA cB : Nat) (l : List Cls) (w : World) (hn : n = l.length) (hl : l.length ≤ 8796093022208) (hok : Hid (LenOk l)) (hs : Sl Lay.cls w A l) (ht : Sl Lay.cls w B l) :
    Calls Try.prog 4 #[.agg #[.slice A n cA], .agg #[.slice B n cB]] w fun e w' => e = .returned (.bool true) ∧ Below w.heap.size w w' := by
  subst hn
  go_enter Try.func4, Try.ntmps4
  go_upto_region 1 with fail
  generalize hW : World.alloc _ _ = W0
  have hb0 : Below w.heap.size w W0 := by rw [← hW]; exact (by repeat (first | assumption | exact Below.refl _ _ | apply bw_alloc | apply bw_drew | apply bw_drewN | apply bw_later | apply bw_step))
  have bA : Box W0 w.heap.size [.slice A l.length cA] 28 := by rw [← hW]; exact (Box.new _ _ _).alloc _
  have bB : Box W0 (w.heap.size + 1) [.slice B l.length cB] 28 := by rw [← hW]; exact Box.at (by simp)
  clear hW
  have hsA := hs.mono hb0
  have hsB := ht.mono hb0
  have xA := bA.cell 0 rfl
  have lA := bA.lt
  have xB := bB.cell 0 rfl
  have lB := bB.lt
  go_wp2_with fail
  go_loopw [5] (fun v wr => ∃ k : Nat, k ≤ l.length ∧ v = .int .i64 k ∧ Below W0.heap.size W0 wr) (fun v _ => l.length - (intOf v).toNat)
  case atStart => exact ⟨0, Nat.zero_le _, rfl, Below.refl _ _⟩
  case round =>
    obtain ⟨k, hk, rfl, hbw⟩ := hrel
    clear xA xB lA lB
    have xA := (bA.mono hbw).cell 0 rfl
    have lA := (bA.mono hbw).lt
    have xB := (bB.mono hbw).cell 0 rfl
    have lB := (bB.mono hbw).lt
    by_cases hlt : k < l.length
    case neg =>
      go_wp2_with fail
      go_ret
      exact ⟨rfl, below_step hb0 hbw⟩
    obtain ⟨b, o, A2, c2, A3, c3, eA, hb, d0, d1, d2, d3, hc2, hs2, hc3, hs3⟩ := (hsA.mono hbw).cls_at hlt
    subst eA
    obtain ⟨b', o', B2, e2, B3, e3, eB, hb', f0, f1, f2, f3, he2, hs2', he3, hs3'⟩ := (hsB.mono hbw).cls_at hlt
    subst eB
    obtain ⟨hfl, hml, HPM⟩ : l[k].fields.length ≤ 8796093022208 ∧ l[k].methods.length ≤ 8796093022208 ∧ Hid (∀ m ∈ l[k].methods, m.params.length ≤ 8796093022208) := hok.out _ (List.getElem_mem hlt)
    go_upto_region 6 with fail
    go_cut [6, 7] (fun p6 p7 wx => ∃ g6 g7, p6 = .pointer (some ⟨g6, 0, none⟩) ∧ p7 = .pointer (some ⟨g7, 0, none⟩) ∧ Box wx g6 [.string l[k].name, .string l[k].super, .slice A2 l[k].fields.length c2, .slice A3 l[k].methods.length c3] 35 ∧ Box wx g7 [.string l[k].name, .string l[k].super, .slice B2 l[k].fields.length e2, .slice B3 l[k].methods.length e3] 35 ∧ Below wr.heap.size wr wx)
    case first =>
      refine wp_region_RZ 14 (by kernel_rfl) (by kernel_rfl) ?_
      refine RZ.chunk (f := 4) [0, 1, 2, 3, 4, 5, 6, 7, 8, 9] (by kernel_rfl) ?_
      ((simp only [pickOps, List.filterMap, List.getElem?_toArray, List.getElem?_cons_zero, List.getElem?_cons_succ]); (repeat (go_big_quiet_step (fail))); refine wpQuiet_nil ?_)
      refine RZ.both 10 11 rfl rfl (by kernel_rfl) (by omega) (by omega) ?_ ?_
      · intro K hK
        go_wp2_with fail
        refine hK _ _ (bw_alloc (Below.refl _ _)) ?_
        clear hK
        refine RZ.single 11 rfl (by kernel_rfl) (by omega) ?_
        intro K hK
        go_wp2_with fail
        refine hK _ _ (bw_alloc (bw_alloc (Below.refl _ _))) ?_
        clear hK
        generalize hW : World.drew (World.alloc (World.alloc _ _) _) = W2
        have hb2 : Below wr.heap.size wr W2 := by rw [← hW]; exact (by repeat (first | assumption | exact Below.refl _ _ | apply bw_alloc | apply bw_drew | apply bw_drewN | apply bw_later | apply bw_step))
        have b6 : Box W2 wr.heap.size [.string ⟨#[]⟩, .string ⟨#[]⟩, .slice none 0 0, .slice none 0 0] 35 := by rw [← hW]; exact (by repeat (first | (refine Box.at ?_; (simp; done)) | apply Box.drew | apply Box.alloc | assumption))
        have b7 : Box W2 (wr.heap.size + 1) [.string ⟨#[]⟩, .string ⟨#[]⟩, .slice none 0 0, .slice none 0 0] 35 := by rw [← hW]; exact (by repeat (first | (refine Box.at ?_; (simp; done)) | apply Box.drew | apply Box.alloc | assumption))
        clear hW
        have l5 := b6.lt
        have f5 := fun i => b6.free i
        have z0 := b6.cell 0 rfl
        have z1 := b6.cell 1 rfl
        have z2 := b6.cell 2 rfl
        have z3 := b6.cell 3 rfl
        obtain ⟨b6', hg5⟩ := b6.store4 (.string l[k].name) (.string l[k].super) (.slice A2 l[k].fields.length c2) (.slice A3 l[k].methods.length c3)
        have b7' := b7.grown hg5 (by simp)
        have hb3 := hb2.grown hg5 hb2.size (fun k hk => by injection hk with hk; omega)
        refine RZ.single 12 rfl (by kernel_rfl) (by omega) ?_
        intro K hK
        go_wp2_with fail
        refine hK _ _ (below_undrewZ hb3) ?_
        clear hK
        generalize World.setCell (World.setCell (World.setCell (World.setCell _ _ _) _ _) _ _) _ _ = W3 at *
        clear z0 z1 z2 z3 f5
        have l6 := b7'.lt
        have f6 := fun i => b7'.free i
        have u0 := b7'.cell 0 rfl
        have u1 := b7'.cell 1 rfl
        have u2 := b7'.cell 2 rfl
        have u3 := b7'.cell 3 rfl
        obtain ⟨b7'', hg6⟩ := b7'.store4 (.string l[k].name) (.string l[k].super) (.slice B2 l[k].fields.length e2) (.slice B3 l[k].methods.length e3)
        have b6'' := b6'.grown hg6 (by simp)
        have hb4 := hb3.grown hg6 hb3.size (fun k hk => by injection hk with hk; omega)
        refine RZ.single 13 rfl (by kernel_rfl) (by omega) ?_
        intro K hK
        go_wp2_with fail
        refine hK _ _ (below_undrewZ hb4) ?_
        clear hK
        (refine RZ.done (by kernel_rfl) (by kernel_rfl) ?_)
        go_wp2_with fail
        go_meet
        exact ⟨_, _, rfl, rfl, b6'', b7'', hb4⟩
      · intro K hK
        go_wp2_with fail
        refine hK _ _ (bw_alloc (Below.refl _ _)) ?_
        clear hK
        refine RZ.single 10 rfl (by kernel_rfl) (by omega) ?_
        intro K hK
        go_wp2_with fail
        refine hK _ _ (bw_alloc (bw_alloc (Below.refl _ _))) ?_
        clear hK
        generalize hW : World.drew (World.alloc (World.alloc _ _) _) = W2
        have hb2 : Below wr.heap.size wr W2 := by rw [← hW]; exact (by repeat (first | assumption | exact Below.refl _ _ | apply bw_alloc | apply bw_drew | apply bw_drewN | apply bw_later | apply bw_step))
        have b6 : Box W2 (wr.heap.size + 1) [.string ⟨#[]⟩, .string ⟨#[]⟩, .slice none 0 0, .slice none 0 0] 35 := by rw [← hW]; exact (by repeat (first | (refine Box.at ?_; (simp; done)) | apply Box.drew | apply Box.alloc | assumption))
        have b7 : Box W2 wr.heap.size [.string ⟨#[]⟩, .string ⟨#[]⟩, .slice none 0 0, .slice none 0 0] 35 := by rw [← hW]; exact (by repeat (first | (refine Box.at ?_; (simp; done)) | apply Box.drew | apply Box.alloc | assumption))
        clear hW
        have l5 := b6.lt
        have f5 := fun i => b6.free i
        have z0 := b6.cell 0 rfl
        have z1 := b6.cell 1 rfl
        have z2 := b6.cell 2 rfl
        have z3 := b6.cell 3 rfl
        obtain ⟨b6', hg5⟩ := b6.store4 (.string l[k].name) (.string l[k].super) (.slice A2 l[k].fields.length c2) (.slice A3 l[k].methods.length c3)
        have b7' := b7.grown hg5 (by simp)
        have hb3 := hb2.grown hg5 hb2.size (fun k hk => by injection hk with hk; omega)
        refine RZ.single 12 rfl (by kernel_rfl) (by omega) ?_
        intro K hK
        go_wp2_with fail
        refine hK _ _ (below_undrewZ hb3) ?_
        clear hK
        generalize World.setCell (World.setCell (World.setCell (World.setCell _ _ _) _ _) _ _) _ _ = W3 at *
        clear z0 z1 z2 z3 f5
        have l6 := b7'.lt
        have f6 := fun i => b7'.free i
        have u0 := b7'.cell 0 rfl
        have u1 := b7'.cell 1 rfl
        have u2 := b7'.cell 2 rfl
        have u3 := b7'.cell 3 rfl
        obtain ⟨b7'', hg6⟩ := b7'.store4 (.string l[k].name) (.string l[k].super) (.slice B2 l[k].fields.length e2) (.slice B3 l[k].methods.length e3)
        have b6'' := b6'.grown hg6 (by simp)
        have hb4 := hb3.grown hg6 hb3.size (fun k hk => by injection hk with hk; omega)
        refine RZ.single 13 rfl (by kernel_rfl) (by omega) ?_
        intro K hK
        go_wp2_with fail
        refine hK _ _ (below_undrewZ hb4) ?_
        clear hK
        (refine RZ.done (by kernel_rfl) (by kernel_rfl) ?_)
        go_wp2_with fail
        go_meet
        exact ⟨_, _, rfl, rfl, b6'', b7'', hb4⟩
    case rest =>
      obtain ⟨g6, g7, rfl, rfl, b6, b7, hbx⟩ := hcut
      have p0 := b6.cell 0 rfl
      have p1 := b6.cell 1 rfl
      have p2 := b6.cell 2 rfl
      have p3 := b6.cell 3 rfl
      have l6 := b6.lt
      have q0 := b7.cell 0 rfl
      have q1 := b7.cell 1 rfl
      have q2 := b7.cell 2 rfl
      have q3 := b7.cell 3 rfl
      have l7 := b7.lt
      have hbW := below_step hbw hbx
      clear xA xB lA lB d0 d1 d2 d3 f0 f1 f2 f3 hb hb'
      have hs2w := hs2.mono hbx
      have hs2w' := hs2'.mono hbx
      have hs3w := hs3.mono hbx
      have hs3w' := hs3'.mono hbx
      have hpn := fld_neq
      have hpg := fldGuard
      go_wp2_with fail
      obtain ⟨wo, rfl⟩ : ∃ wo : World, wo = wr := ⟨_, rfl⟩
      go_loopw [8] (fun v wq => ∃ i : Nat, i ≤ l[k].fields.length ∧ v = .int .i64 i ∧ Below wc.heap.size wc wq) (fun v _ => l[k].fields.length - (intOf v).toNat)
      case atStart => exact ⟨0, Nat.zero_le _, rfl, Below.refl _ _⟩
      case round =>
        obtain ⟨i, hi, rfl, hbq⟩ := hrel
        clear p0 p1 p2 p3 q0 q1 q2 q3 l6 l7
        have b6q := b6.mono hbq
        have b7q := b7.mono hbq
        have p2 := b6q.cell 2 rfl
        have p3 := b6q.cell 3 rfl
        have l6 := b6q.lt
        have q2 := b7q.cell 2 rfl
        have q3 := b7q.cell 3 rfl
        have l7 := b7q.lt
        by_cases hit : i < l[k].fields.length
        · obtain ⟨b1, o1, eF, hb1, d0, d1⟩ := (hs2w.mono hbq).fld_at hit
          subst eF
          obtain ⟨b2, o2, eG, hb2, f0, f1⟩ := (hs2w'.mono hbq).fld_at hit
          subst eG
          go_wp2_with fail
          refine wp_region_later (by kernel_rfl) (by kernel_rfl) ?_
          repeat (go_big_quiet_step (fail))
          refine wpQuiet_nil ?_
          rintro _ ⟨x, rfl⟩
          go_wp2_with fail
          go_roundw
          case rel => exact ⟨i + 1, by omega, by go_num, below_step hbq x.h⟩
          case measure => simp [intOf]; omega
        · go_wp2_with fail
          obtain ⟨wq, rfl⟩ : ∃ wq : World, wq = wr := ⟨_, rfl⟩
          go_loopw [9] (fun v wz => ∃ j : Nat, j ≤ l[k].methods.length ∧ v = .int .i64 j ∧ Below wc.heap.size wc wz) (fun v _ => l[k].methods.length - (intOf v).toNat)
          case atStart => exact ⟨0, Nat.zero_le _, rfl, hbq⟩
          case round =>
            obtain ⟨j, hj, rfl, hbz⟩ := hrel
            clear p2 p3 q2 q3 l6 l7 b6q b7q
            have b6q := b6.mono hbz
            have b7q := b7.mono hbz
            have p3 := b6q.cell 3 rfl
            have l6 := b6q.lt
            have q3 := b7q.cell 3 rfl
            have l7 := b7q.lt
            by_cases hjt : j < l[k].methods.length
            · obtain ⟨b1, o1, A4, c4, eF, hb1, d0, d1, d2, d3, hc4, hs4⟩ := (hs3w.mono hbz).sg_at hjt
              subst eF
              obtain ⟨b2, o2, B4, e4, eG, hb2, f0, f1, f2, f3, he4, hs4'⟩ := (hs3w'.mono hbz).sg_at hjt
              subst eG
              have hpl := HPM.out _ (List.getElem_mem hjt)
              have HS := fun (x : Later wr) => sameSig_yes l[k].methods[j] l[k].methods[j] A4 B4 c4 e4 x.W hpl hpl (Lib.hid rfl) (Lib.hid rfl) (hs4.later x) (hs4'.later x)
              go_wp2_with fail
              refine wp_region_later (by kernel_rfl) (by kernel_rfl) ?_
              repeat (go_big_quiet_step ((go_at_call 8; exact Calls.later (HS _))))
              refine wpQuiet_nil ?_
              rintro _ ⟨x, rfl⟩
              go_wp2_with fail
              go_roundw
              case rel => exact ⟨j + 1, by omega, by go_num, below_step hbz x.h⟩
              case measure => simp [intOf]; omega
            · go_wp2_with fail
              go_roundw
              case rel => exact ⟨k + 1, by omega, by go_num, below_step hbW hbz⟩
              case measure => simp [intOf]; omega
end Go.Proofs.Ytafincpkehlcfaa
