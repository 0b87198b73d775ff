/-
  Chapter 10: the walk of the law HierInherits.
-/
import Derived.Test.YtafincpkehlcfaaDoorHierT
namespace Go.Proofs.YtafincpkehlcfaaDoor
open Go.RowKit
set_option linter.unusedVariables false

set_option maxRecDepth 100000 in
set_option maxHeartbeats 16000000 in
theorem walk_HierInherits (w : World) (A : Option Addr) (c : Nat) (cs : List Cls) (a b n : ByteArray) (hl : cs.length ≤ 8796093022208) (hcc : cs.length ≤ c) (hsl : Sl Lay.cls w A cs) (hok : Hid (StrOk cs)) (hlk : Hid (LensOk cs)) (ha : okStr a) (hb : okStr b) (hd : okStr n) (hkw : KwAt w) :
    Calls Tryd.prog 5 #[.agg #[.slice A cs.length c], .string a, .string b, .string n] w fun e w' => e = .returned (.bool true) ∧ Below w.heap.size w w' := by
  have hb0 : Below w.heap.size w (w.alloc (.cells #[.slice A cs.length c] 24)) := (by repeat (first | assumption | exact Below.refl _ _ | apply bw_alloc | apply bw_drew | apply bw_drewN | apply bw_later | apply bw_step))
  have bx := Box.new w [.slice A cs.length c] 24
  have HS := fun W (hW : Below w.heap.size w W) x y hx => isSub_any A c cs x y W hl hcc (hsl.mono hW) hok.out.names hx
  have HF := fun W (hW : Below w.heap.size w W) x hx => field_any A c cs x n W hl hcc (hsl.mono hW) hok.out.names hlk hx
  have HL := fun W (hW : Below w.heap.size w W) x hx => lookup_any A c cs x n W hl hcc (hsl.mono hW) hok.out.names hlk hx
  go_enter Tryd.func5, Tryd.ntmps5
  go_wp2_with fail
  refine (check_some A c cs _ hl hcc (hsl.mono hb0) hok hlk (hkw.mono hb0)).mono ?_
  rintro e w1 ⟨n1, m1, rfl, hb1, hV⟩
  have HV := Lib.hid hV
  clear hV
  have hbw1 := below_step hb0 hb1
  have bx1 := bx.mono hb1
  have x1 := bx1.cell 0 rfl
  have xl1 := bx1.lt
  clear bx hb0 hb1
  by_cases hm : m1 = 0
  rotate_left
  · have hq : (m1 != 0) = true := by simpa using hm
    clear hm
    go_wp2_with fail
    refine (awake_any _).mono ?_
    rintro e w2 ⟨rfl, hb2⟩
    go_wp2_with fail
    go_ret
    exact ⟨rfl, below_step hbw1 hb2⟩
  subst hm
  have hv := HV.out (by first | rfl | trivial)
  clear HV
  go_wp2_with fail
  refine (HS _ hbw1 a b ha).mono ?_
  rintro e w2 ⟨rfl, hb2⟩
  have hbw2 := below_step hbw1 hb2
  have bx2 := bx1.mono hb2
  have x2 := bx2.cell 0 rfl
  have xl2 := bx2.lt
  clear x1 xl1
  cases h1 : hasS (supersL cs a) b with
  | false =>
    go_wp2_with fail
    refine (awake_any _).mono ?_
    rintro e w3 ⟨rfl, hb3⟩
    go_wp2_with fail
    go_ret
    exact ⟨rfl, below_step hbw2 hb3⟩
  | true =>
    have HINH : Hid ((fieldS cs b n).2.2 = true → fieldS cs a n = fieldS cs b n) := fun h => hv.inherit_field n h1 h
    have HLK : Hid (∀ (j k : Nat) (hj : j < cs.length) (hk : k < cs[j].methods.length), lookS cs b n = ((j : Int), (k : Int)) → (j : Int) ∈ up cs (fnd cs b) → idxI (isSg n) cs[j].methods = k → ∃ j' k' : Nat, ∃ hj' : j' < cs.length, ∃ hk' : k' < cs[j'].methods.length, lookS cs a n = ((j' : Int), (k' : Int)) ∧ SgEq cs[j].methods[k] cs[j'].methods[k']) := fun j k hj hk h2 h3 h4 => hv.inherit_look n h1 hj hk h2 h3 h4
    have HFB := fun W (hW : Below w.heap.size w W) => HF W hW b hb
    have HFA := fun W (hW : Below w.heap.size w W) => HF W hW a ha
    clear h1 HF
    generalize fieldS cs b n = p at *
    generalize fieldS cs a n = q at *
    obtain ⟨p1, p2, p3⟩ := p
    obtain ⟨q1, q2, q3⟩ := q
    dsimp only at HINH HFB HFA
    go_wp2_with fail
    refine (HFB _ hbw2).mono ?_
    rintro e w3 ⟨rfl, hb3⟩
    have hbw3 := below_step hbw2 hb3
    have bx3 := bx2.mono hb3
    have x3 := bx3.cell 0 rfl
    have xl3 := bx3.lt
    clear x2 xl2
    go_wp2_with fail
    refine (HFA _ hbw3).mono ?_
    rintro e w4 ⟨rfl, hb4⟩
    have hbw4 := below_step hbw3 hb4
    have bx4 := bx3.mono hb4
    clear x3 xl3
    go_upto_region 6 with fail
    go_cut [13, 16, 68] (fun v1 v2 v wx => v = .bool false ∧ wx = w4)
    case first =>
      by_cases hp3 : p3 = true
      · have hqq := HINH.out hp3
        have k1 : q1 = p1 := congrArg (·.1) hqq
        have k2 : q2 = p2 := congrArg (·.2.1) hqq
        have k3 : q3 = true := (congrArg (·.2.2) hqq).trans hp3
        have e1 : (p1.toList == q1.toList) = true := by rw [k1]; simp
        have e2 : (p2.toList == q2.toList) = true := by rw [k2]; simp
        have e3 : (p1.toList != q1.toList) = false := by rw [k1]; simp
        have e4 : (p2.toList != q2.toList) = false := by rw [k2]; simp
        clear hqq k1 k2
        go_wp2_with fail
        go_meet
        exact ⟨rfl, rfl⟩
      · have hp4 : p3 = false := by simpa using hp3
        clear hp3
        go_wp2_with fail
        go_meet
        exact ⟨rfl, rfl⟩
    case rest =>
      obtain ⟨rfl, rfl⟩ := hcut
      have x4 := bx4.cell 0 rfl
      have xl4 := bx4.lt
      clear HFA HFB HINH
      go_wp2_with fail
      refine (HL _ hbw4 b hb).mono ?_
      rintro e w5 ⟨hR5, hb5⟩
      have hbw5 := below_step hbw4 hb5
      have bx5 := bx4.mono hb5
      have x5 := bx5.cell 0 rfl
      have xl5 := bx5.lt
      clear x4 xl4
      have hcase := lookL_bd (cs := cs) (m := n) (chR_bd (fnd_bd cs b).2).1
      rcases hcase with hno | ⟨j, k, hj, hk, hyes, hmem, hidx⟩
      · have he := hR5.no hno
        subst he
        clear HLK hR5 hno
        go_wp2_with fail
        generalize hW : World.alloc _ _ = W6
        have hbw6 : Below w.heap.size w W6 := by rw [← hW]; exact (by repeat (first | assumption | exact Below.refl _ _ | apply bw_alloc | apply bw_drew | apply bw_drewN | apply bw_later | apply bw_step))
        have bx6 : Box W6 w.heap.size [.slice A cs.length c] 24 := by rw [← hW]; exact bx5.alloc _
        clear hW x5 xl5
        refine (HL _ hbw6 a ha).mono ?_
        rintro e w7 ⟨hR7, hb7⟩
        have hbw7 := below_step hbw6 hb7
        have hcase := lookL_bd (cs := cs) (m := n) (chR_bd (fnd_bd cs a).2).1
        rcases hcase with hno | ⟨j, k, hj, hk, hyes, hmem, hidx⟩
        · have he := hR7.no hno
          subst he
          clear hR7 hno
          go_wp2_with fail
          generalize hW : World.alloc _ _ = W8
          have hbw8 : Below w.heap.size w W8 := by rw [← hW]; exact (by repeat (first | assumption | exact Below.refl _ _ | apply bw_alloc | apply bw_drew | apply bw_drewN | apply bw_later | apply bw_step))
          clear hW
          refine (awake_any _).mono ?_
          rintro e w9 ⟨rfl, hb9⟩
          go_wp2_with fail
          go_ret
          exact ⟨rfl, below_step hbw8 hb9⟩
        · obtain ⟨v, he, hv7⟩ := hR7.yes j k hj hk hyes
          subst he
          obtain ⟨A7, c7, rfl, hc7, hs7⟩ := hv7
          clear hR7 hyes hmem hidx
          go_wp2_with fail
          generalize hW : World.alloc _ _ = W8
          have hbw8 : Below w.heap.size w W8 := by rw [← hW]; exact (by repeat (first | assumption | exact Below.refl _ _ | apply bw_alloc | apply bw_drew | apply bw_drewN | apply bw_later | apply bw_step))
          clear hW
          refine (awake_any _).mono ?_
          rintro e w9 ⟨rfl, hb9⟩
          go_wp2_with fail
          go_ret
          exact ⟨rfl, below_step hbw8 hb9⟩
      · obtain ⟨v, he, hv5⟩ := hR5.yes j k hj hk hyes
        subst he
        obtain ⟨A5, c5, rfl, hc5, hs5⟩ := hv5
        obtain ⟨j2, k2, hj2, hk2, hyes2, hSG⟩ := HLK.out j k hj hk hyes hmem hidx
        have HSG := Lib.hid hSG
        clear hR5 hyes hmem hidx HLK hSG
        have hl1 := (hlk.out _ (List.getElem_mem hj)).2.2 _ (List.getElem_mem hk)
        have hl2 := (hlk.out _ (List.getElem_mem hj2)).2.2 _ (List.getElem_mem hk2)
        generalize cs[j].methods[k] = s1 at *
        generalize hs2 : cs[j2].methods[k2] = s2 at *
        go_wp2_with fail
        generalize hW : World.alloc _ _ = W6
        have hb6 : Below w5.heap.size w5 W6 := by rw [← hW]; exact (by repeat (first | assumption | exact Below.refl _ _ | apply bw_alloc | apply bw_drew | apply bw_drewN | apply bw_later | apply bw_step))
        have hbw6 : Below w.heap.size w W6 := below_step hbw5 hb6
        have bx6 : Box W6 w5.heap.size [.string s1.name, .bool s1.static, .slice A5 s1.params.length c5, .string s1.result] 37 := by rw [← hW]; exact (by repeat (first | (refine Box.at ?_; (simp; done)) | apply Box.drew | apply Box.alloc | assumption))
        clear hW x5 xl5
        refine (HL _ hbw6 a ha).mono ?_
        rintro e w7 ⟨hR7, hb7⟩
        have hbw7 := below_step hbw6 hb7
        have bx7 := bx6.mono hb7
        obtain ⟨v, he, hv7⟩ := hR7.yes j2 k2 hj2 hk2 hyes2
        subst he
        obtain ⟨A7, c7, rfl, hc7, hs7⟩ := hv7
        rw [hs2] at hs7 hc7
        simp only [hs2]
        clear hR7 hyes2 hs2
        go_upto_region 10 with fail
        generalize hW : World.alloc _ _ = W8
        have hb8 : Below w7.heap.size w7 W8 := by rw [← hW]; exact (by repeat (first | assumption | exact Below.refl _ _ | apply bw_alloc | apply bw_drew | apply bw_drewN | apply bw_later | apply bw_step))
        have hbw8 : Below w.heap.size w W8 := below_step hbw7 hb8
        have bx8 : Box W8 w5.heap.size [.string s1.name, .bool s1.static, .slice A5 s1.params.length c5, .string s1.result] 37 := bx7.mono hb8
        have by8 : Box W8 w7.heap.size [.string s2.name, .bool s2.static, .slice A7 s2.params.length c7, .string s2.result] 37 := by rw [← hW]; exact (by repeat (first | (refine Box.at ?_; (simp; done)) | apply Box.drew | apply Box.alloc | assumption))
        clear hW
        have y0 := bx8.cell 0 rfl
        have y1 := bx8.cell 1 rfl
        have y2 := bx8.cell 2 rfl
        have y3 := bx8.cell 3 rfl
        have yl := bx8.lt
        have z0 := by8.cell 0 rfl
        have z1 := by8.cell 1 rfl
        have z2 := by8.cell 2 rfl
        have z3 := by8.cell 3 rfl
        have zl := by8.lt
        go_wp2_with fail
        refine (sig_yes s1 s2 A5 A7 c5 c7 _ hl1 hl2 HSG (hs5.mono (below_step hb6 (below_step hb7 hb8))) (hs7.mono hb8)).mono ?_
        rintro e w9 ⟨rfl, hb9⟩
        have hbw9 := below_step hbw8 hb9
        go_wp2_with fail
        refine (awake_any _).mono ?_
        rintro e w10 ⟨rfl, hb10⟩
        go_wp2_with fail
        go_ret
        exact ⟨rfl, below_step hbw9 hb10⟩
end Go.Proofs.YtafincpkehlcfaaDoor
