/-
  Chapter 10: Check (one way: if it finds no error, the hierarchy is valid).
-/
import Derived.Test.YtafincpkehlcfaaDoorHierM
namespace Go.Proofs.YtafincpkehlcfaaDoor
open Go.RowKit
set_option linter.unusedVariables false

theorem chGo_pre {nx : Nat → Int} : ∀ (f : Nat) (i : Int) (l : List Int), ∃ T, (chGo nx f i l).1 = l ++ T
  | 0, i, l => ⟨[], by simp [chGo]⟩
  | f + 1, i, l => by
    by_cases h : 0 ≤ i ∧ i ∉ l
    · rw [chGo_step h]
      obtain ⟨T, hT⟩ := chGo_pre (nx := nx) f (nx i.toNat) (l ++ [i])
      exact ⟨i :: T, by rw [hT]; simp⟩
    · rw [chGo_stop h]; exact ⟨[], by simp⟩
theorem chR_head {cs : List Cls} {i : Nat} (hi : i < cs.length) : ∃ T, (chR cs i).1 = (i : Int) :: T := by
  unfold chR
  obtain ⟨n, hn⟩ : ∃ n, cs.length = n + 1 := ⟨cs.length - 1, by omega⟩
  rw [hn, chGo_step ⟨by omega, by simp⟩]
  obtain ⟨T, hT⟩ := chGo_pre (nx := supI cs) n (supI cs (i : Int).toNat) ([] ++ [(i : Int)])
  exact ⟨T, by rw [hT]; rfl⟩
structure ClassOk (cs : List Cls) (i : Nat) (hi : i < cs.length) : Prop where
  full : cs[i].name.toList.isEmpty = false
  first : fnd cs cs[i].name = i
  known : cs[i].super.toList.isEmpty = true ∨ 0 ≤ fnd cs cs[i].super
  acyc : (chR cs i).2 = false
  flds : ∀ k (hk : k < cs[i].fields.length), ∀ j ∈ (chR cs i).1.tail, fIdx cs cs[i].fields[k].name j < 0
  mths : ∀ k (hk : k < cs[i].methods.length), MethOk cs (chR cs i).1.tail cs[i].methods[k]

set_option maxRecDepth 100000 in
set_option maxHeartbeats 4000000 in
theorem tClass_some (A : Option Addr) (c b : Nat) (cs : List Cls) (i : Nat) (w : World) (hl : cs.length ≤ 1000) (hi : i < cs.length) (hT : TabV w A c b cs) (hok : Hid (StrOk cs)) (hlk : Hid (LensOk cs)) (hkw : KwAt w) :
    Calls Tryd.prog 21 #[.agg #[.slice A cs.length c, .map (some b)], .int .i64 i] w (ErrR (ClassOk cs i hi) w) := by
  have hfl := hlk.out _ (List.getElem_mem hi)
  have hf1 := hfl.1
  have hf2 := hfl.2.1
  clear hfl
  obtain ⟨b0, o0, A2, c2, A3, c3, rfl, hb0, d0, d1, d2, d3, hc2, hs2, hc3, hs3⟩ := hT.sl.cls_at hi
  have hno := (hok.out _ (List.getElem_mem hi)).1
  obtain ⟨hno1, hno2⟩ := hno
  obtain ⟨T, hT0⟩ := chR_head hi
  have hcb := chR_bd (cs := cs) (i := (i : Int)) (by omega)
  have hcl := chR_len (cs := cs) (i := (i : Int)) (by omega)
  have HT0 := Lib.hid hT0
  rw [hT0] at hcb hcl
  have hTl : T.length ≤ 1000 := by simp at hcl; omega
  have hTb : Hid (∀ x ∈ T, 0 ≤ x ∧ x < (cs.length : Int)) := fun x hx => hcb.1 x (by simp [hx])
  clear hcb hcl hT0
  go_enter Tryd.func21, Tryd.ntmps21
  go_wp2_with fail
  generalize hW : World.alloc _ _ = W1
  have hb1 : Below w.heap.size w W1 := by rw [← hW]; exact (by repeat (first | assumption | exact Below.refl _ _ | apply bw_alloc | apply bw_drew | apply bw_drewN | apply bw_later | apply bw_step))
  have bt : Box W1 w.heap.size [.slice (some ⟨b0, o0, none⟩) cs.length c, .map (some b)] 51 := by rw [← hW]; exact (by repeat (first | (refine Box.at ?_; (simp; done)) | apply Box.drew | apply Box.alloc | assumption))
  have bc : Box W1 (w.heap.size + 1) [.string cs[i].name, .string cs[i].super, .slice A2 cs[i].fields.length c2, .slice A3 cs[i].methods.length c3] 32 := by rw [← hW]; exact (by repeat (first | (refine Box.at ?_; (simp; done)) | apply Box.drew | apply Box.alloc | assumption))
  clear hW d0 d1 d2 d3
  refine (ident_some cs[i].name _ hno1 (hkw.mono hb1)).mono ?_
  rintro e w1 ⟨bI, rfl, rfl, hne⟩
  have HNE := Lib.hid hne
  clear hne
  cases bI with
  | false =>
    go_wp2_with fail
    go_ret
    exact ⟨_, rfl, hb1, fun h => by cases h⟩
  | true =>
  have t0 := bt.cell 0 rfl
  have t1 := bt.cell 1 rfl
  have tl := bt.lt
  have p0 := bc.cell 0 rfl
  have pl := bc.lt
  go_wp2_with fail
  refine (tFind_any _ c b cs cs[i].name _ (hT.mono hb1) hno1).mono ?_
  rintro e w2 ⟨rfl, hb2⟩
  have hbw2 := below_step hb1 hb2
  have bt2 := bt.mono hb2
  have bc2 := bc.mono hb2
  clear t0 t1 tl p0 pl bt bc hb1 hb2
  by_cases hfi : fnd cs cs[i].name = i
  rotate_left
  · have hq : (fnd cs cs[i].name != (i : Int)) = true := by simpa using hfi
    clear hfi
    go_wp2_with fail
    go_ret
    exact ⟨_, rfl, hbw2, fun h => by cases h⟩
  have HFI := Lib.hid hfi
  have hq : (fnd cs cs[i].name != (i : Int)) = false := by simp [hfi]
  clear hfi
  have t0 := bt2.cell 0 rfl
  have t1 := bt2.cell 1 rfl
  have tl := bt2.lt
  have p1 := bc2.cell 1 rfl
  have pl := bc2.lt
  cases hse : cs[i].super.toList.isEmpty with
  | true =>
    have HKN : Hid (cs[i].super.toList.isEmpty = true ∨ 0 ≤ fnd cs cs[i].super) := Or.inl hse
    obtain ⟨w3, rfl⟩ : ∃ w3 : World, w3 = w2 := ⟨_, rfl⟩
    have hbw3 := hbw2
    have bt3 := bt2
    have bc3 := bc2
    have t0 := bt3.cell 0 rfl
    have t1 := bt3.cell 1 rfl
    have tl := bt3.lt
    go_wp2_with fail
    refine (tChain_any _ c b cs (i : Int) _ (by omega) (by omega) (by omega) (hT.mono hbw3) hok.out.names).mono ?_
    rintro e w4 ⟨⟨v4, rfl, hown4⟩, hb4⟩
    have hbw4 := below_step hbw3 hb4
    have bt4 := bt3.mono hb4
    have bc4 := bc3.mono hb4
    clear t0 t1 tl bt3 bc3 hb4 hbw3 p1 pl bt2 bc2 hbw2
    rw [HT0.out] at hown4
    cases hcy : (chR cs (i : Int)).2 with
    | true =>
      go_wp2_with fail
      go_ret
      exact ⟨_, rfl, hbw4, fun h => by cases h⟩
    | false =>
    have HCY := Lib.hid hcy
    clear hcy
    obtain ⟨AL, cL, hv4, hcL, hsL⟩ := IntsV.of_own hown4
    simp only [List.length_cons] at hv4 hcL
    subst hv4
    obtain ⟨bL, oL, rfl, hbL, _⟩ := hsL.int_at (i := 0) (by simp)
    clear hown4
    have p2 := bc4.cell 2 rfl
    have p3 := bc4.cell 3 rfl
    have pl := bc4.lt
    by_cases hg1 : 16 < cs[i].fields.length
    · go_wp2_with fail
      go_ret
      exact ⟨_, rfl, hbw4, fun h => by cases h⟩
    by_cases hg2 : 16 < cs[i].methods.length
    · go_wp2_with fail
      go_ret
      exact ⟨_, rfl, hbw4, fun h => by cases h⟩
    go_wp2_with fail
    clear p2 p3 pl
    go_loopw [57] (fun v wr => ∃ q : Nat, q ≤ cs[i].fields.length ∧ v = .int .i64 q ∧ (∀ k (hk : k < q) (hk2 : k < cs[i].fields.length), ∀ j ∈ T, fIdx cs cs[i].fields[k].name j < 0) ∧ Below w4.heap.size w4 wr) (fun v _ => cs[i].fields.length - (intOf v).toNat)
    case atStart => exact ⟨0, Nat.zero_le _, rfl, fun k hk => by omega, Below.refl _ _⟩
    case round =>
      obtain ⟨q, hq, rfl, HF0, hbw⟩ := hrel
      have HF := Lib.hid HF0
      clear HF0
      have hbw5 := below_step hbw4 hbw
      have bt5 := bt4.mono hbw
      have bc5 := bc4.mono hbw
      have t0 := bt5.cell 0 rfl
      have t1 := bt5.cell 1 rfl
      have tl := bt5.lt
      by_cases hqt : q < cs[i].fields.length
      · go_wp2_with fail
        refine (tField_some _ c b bL oL cL cs i q T _ hl hi hqt hcL hTl hTb (hsL.mono hbw) (hT.mono hbw5) hok hlk (hkw.mono hbw5)).mono ?_
        rintro e w6 ⟨n6, rfl, hb6, hp6⟩
        have HP := Lib.hid hp6
        clear hp6
        by_cases hn0 : n6 = 0
        · subst hn0
          have HF2 : Hid (∀ k (hk : k < q + 1) (hk2 : k < cs[i].fields.length), ∀ j ∈ T, fIdx cs cs[i].fields[k].name j < 0) := fun k hk hk2 => by
            by_cases ez : k = q
            · subst ez; exact HP.out rfl
            · exact HF.out k (by omega) hk2
          go_wp2_with fail
          go_roundw
          case rel => exact ⟨q + 1, by omega, by go_num, HF2.out, below_step hbw hb6⟩
          case measure => simp [intOf]; omega
        · have hnq : (n6 != 0) = true := by simpa using hn0
          have HN0 := Lib.hid hn0
          clear hn0
          go_wp2_with fail
          go_ret
          exact ⟨_, rfl, below_step hbw5 hb6, fun h => absurd h HN0.out⟩
      · have HFA : Hid (∀ k (hk : k < cs[i].fields.length), ∀ j ∈ T, fIdx cs cs[i].fields[k].name j < 0) := fun k hk => HF.out k (by omega) hk
        clear t0 t1 tl
        have p3 := bc5.cell 3 rfl
        have pl := bc5.lt
        go_wp2_with fail
        clear p3 pl
        obtain ⟨wo, rfl⟩ : ∃ wo : World, wo = wr := ⟨_, rfl⟩
        go_loopw [71] (fun v wr => ∃ q : Nat, q ≤ cs[i].methods.length ∧ v = .int .i64 q ∧ (∀ k (hk : k < q) (hk2 : k < cs[i].methods.length), MethOk cs T cs[i].methods[k]) ∧ Below wo.heap.size wo wr) (fun v _ => cs[i].methods.length - (intOf v).toNat)
        case atStart => exact ⟨0, Nat.zero_le _, rfl, fun k hk => by omega, Below.refl _ _⟩
        case round =>
          obtain ⟨z, hz, rfl, HG0, hbv⟩ := hrel
          have HG := Lib.hid HG0
          clear HG0
          have hbw7 := below_step hbw5 hbv
          have bt7 := bt5.mono hbv
          have t0 := bt7.cell 0 rfl
          have t1 := bt7.cell 1 rfl
          have tl := bt7.lt
          by_cases hzt : z < cs[i].methods.length
          · go_wp2_with fail
            refine (tMethod_some _ c b bL oL cL cs i z T _ hl hi hzt hcL hTl hTb ((hsL.mono hbw).mono hbv) (hT.mono hbw7) hok hlk (hkw.mono hbw7)).mono ?_
            rintro e w8 ⟨n8, rfl, hb8, hp8⟩
            have HP := Lib.hid hp8
            clear hp8
            by_cases hn0 : n8 = 0
            · subst hn0
              have HG2 : Hid (∀ k (hk : k < z + 1) (hk2 : k < cs[i].methods.length), MethOk cs T cs[i].methods[k]) := fun k hk hk2 => by
                by_cases ez : k = z
                · subst ez; exact HP.out rfl
                · exact HG.out k (by omega) hk2
              go_wp2_with fail
              go_roundw
              case rel => exact ⟨z + 1, by omega, by go_num, HG2.out, below_step hbv hb8⟩
              case measure => simp [intOf]; omega
            · have hnq : (n8 != 0) = true := by simpa using hn0
              have HN0 := Lib.hid hn0
              clear hn0
              go_wp2_with fail
              go_ret
              exact ⟨_, rfl, below_step hbw7 hb8, fun h => absurd h HN0.out⟩
          · have HALL : Hid (ClassOk cs i hi) := ⟨HNE.out (by first | rfl | trivial), HFI.out, HKN.out, HCY.out, by rw [HT0.out]; exact HFA.out, by rw [HT0.out]; exact fun k hk => HG.out k (by omega) hk⟩
            go_wp2_with fail
            go_ret
            exact ⟨_, rfl, hbw7, fun _ => HALL.out⟩
  | false =>
    go_wp2_with fail
    refine (tFind_any _ c b cs cs[i].super _ (hT.mono hbw2) hno2).mono ?_
    rintro e w3 ⟨rfl, hb3⟩
    have hbw3 := below_step hbw2 hb3
    have bt3 := bt2.mono hb3
    have bc3 := bc2.mono hb3
    by_cases hneg : fnd cs cs[i].super < 0
    · go_wp2_with fail
      go_ret
      exact ⟨_, rfl, hbw3, fun h => by cases h⟩
    · have HKN : Hid (cs[i].super.toList.isEmpty = true ∨ 0 ≤ fnd cs cs[i].super) := Or.inr (by omega)
      clear t0 t1 tl p1 pl bt2 bc2 hb3 hbw2
      have t0 := bt3.cell 0 rfl
      have t1 := bt3.cell 1 rfl
      have tl := bt3.lt
      go_wp2_with fail
      refine (tChain_any _ c b cs (i : Int) _ (by omega) (by omega) (by omega) (hT.mono hbw3) hok.out.names).mono ?_
      rintro e w4 ⟨⟨v4, rfl, hown4⟩, hb4⟩
      have hbw4 := below_step hbw3 hb4
      have bt4 := bt3.mono hb4
      have bc4 := bc3.mono hb4
      clear t0 t1 tl bt3 bc3 hb4 hbw3
      rw [HT0.out] at hown4
      cases hcy : (chR cs (i : Int)).2 with
      | true =>
        go_wp2_with fail
        go_ret
        exact ⟨_, rfl, hbw4, fun h => by cases h⟩
      | false =>
      have HCY := Lib.hid hcy
      clear hcy
      obtain ⟨AL, cL, hv4, hcL, hsL⟩ := IntsV.of_own hown4
      simp only [List.length_cons] at hv4 hcL
      subst hv4
      obtain ⟨bL, oL, rfl, hbL, _⟩ := hsL.int_at (i := 0) (by simp)
      clear hown4
      have p2 := bc4.cell 2 rfl
      have p3 := bc4.cell 3 rfl
      have pl := bc4.lt
      by_cases hg1 : 16 < cs[i].fields.length
      · go_wp2_with fail
        go_ret
        exact ⟨_, rfl, hbw4, fun h => by cases h⟩
      by_cases hg2 : 16 < cs[i].methods.length
      · go_wp2_with fail
        go_ret
        exact ⟨_, rfl, hbw4, fun h => by cases h⟩
      go_wp2_with fail
      clear p2 p3 pl
      go_loopw [57] (fun v wr => ∃ q : Nat, q ≤ cs[i].fields.length ∧ v = .int .i64 q ∧ (∀ k (hk : k < q) (hk2 : k < cs[i].fields.length), ∀ j ∈ T, fIdx cs cs[i].fields[k].name j < 0) ∧ Below w4.heap.size w4 wr) (fun v _ => cs[i].fields.length - (intOf v).toNat)
      case atStart => exact ⟨0, Nat.zero_le _, rfl, fun k hk => by omega, Below.refl _ _⟩
      case round =>
        obtain ⟨q, hq, rfl, HF0, hbw⟩ := hrel
        have HF := Lib.hid HF0
        clear HF0
        have hbw5 := below_step hbw4 hbw
        have bt5 := bt4.mono hbw
        have bc5 := bc4.mono hbw
        have t0 := bt5.cell 0 rfl
        have t1 := bt5.cell 1 rfl
        have tl := bt5.lt
        by_cases hqt : q < cs[i].fields.length
        · go_wp2_with fail
          refine (tField_some _ c b bL oL cL cs i q T _ hl hi hqt hcL hTl hTb (hsL.mono hbw) (hT.mono hbw5) hok hlk (hkw.mono hbw5)).mono ?_
          rintro e w6 ⟨n6, rfl, hb6, hp6⟩
          have HP := Lib.hid hp6
          clear hp6
          by_cases hn0 : n6 = 0
          · subst hn0
            have HF2 : Hid (∀ k (hk : k < q + 1) (hk2 : k < cs[i].fields.length), ∀ j ∈ T, fIdx cs cs[i].fields[k].name j < 0) := fun k hk hk2 => by
              by_cases ez : k = q
              · subst ez; exact HP.out rfl
              · exact HF.out k (by omega) hk2
            go_wp2_with fail
            go_roundw
            case rel => exact ⟨q + 1, by omega, by go_num, HF2.out, below_step hbw hb6⟩
            case measure => simp [intOf]; omega
          · have hnq : (n6 != 0) = true := by simpa using hn0
            have HN0 := Lib.hid hn0
            clear hn0
            go_wp2_with fail
            go_ret
            exact ⟨_, rfl, below_step hbw5 hb6, fun h => absurd h HN0.out⟩
        · have HFA : Hid (∀ k (hk : k < cs[i].fields.length), ∀ j ∈ T, fIdx cs cs[i].fields[k].name j < 0) := fun k hk => HF.out k (by omega) hk
          clear t0 t1 tl
          have p3 := bc5.cell 3 rfl
          have pl := bc5.lt
          go_wp2_with fail
          clear p3 pl
          obtain ⟨wo, rfl⟩ : ∃ wo : World, wo = wr := ⟨_, rfl⟩
          go_loopw [71] (fun v wr => ∃ q : Nat, q ≤ cs[i].methods.length ∧ v = .int .i64 q ∧ (∀ k (hk : k < q) (hk2 : k < cs[i].methods.length), MethOk cs T cs[i].methods[k]) ∧ Below wo.heap.size wo wr) (fun v _ => cs[i].methods.length - (intOf v).toNat)
          case atStart => exact ⟨0, Nat.zero_le _, rfl, fun k hk => by omega, Below.refl _ _⟩
          case round =>
            obtain ⟨z, hz, rfl, HG0, hbv⟩ := hrel
            have HG := Lib.hid HG0
            clear HG0
            have hbw7 := below_step hbw5 hbv
            have bt7 := bt5.mono hbv
            have t0 := bt7.cell 0 rfl
            have t1 := bt7.cell 1 rfl
            have tl := bt7.lt
            by_cases hzt : z < cs[i].methods.length
            · go_wp2_with fail
              refine (tMethod_some _ c b bL oL cL cs i z T _ hl hi hzt hcL hTl hTb ((hsL.mono hbw).mono hbv) (hT.mono hbw7) hok hlk (hkw.mono hbw7)).mono ?_
              rintro e w8 ⟨n8, rfl, hb8, hp8⟩
              have HP := Lib.hid hp8
              clear hp8
              by_cases hn0 : n8 = 0
              · subst hn0
                have HG2 : Hid (∀ k (hk : k < z + 1) (hk2 : k < cs[i].methods.length), MethOk cs T cs[i].methods[k]) := fun k hk hk2 => by
                  by_cases ez : k = z
                  · subst ez; exact HP.out rfl
                  · exact HG.out k (by omega) hk2
                go_wp2_with fail
                go_roundw
                case rel => exact ⟨z + 1, by omega, by go_num, HG2.out, below_step hbv hb8⟩
                case measure => simp [intOf]; omega
              · have hnq : (n8 != 0) = true := by simpa using hn0
                have HN0 := Lib.hid hn0
                clear hn0
                go_wp2_with fail
                go_ret
                exact ⟨_, rfl, below_step hbw7 hb8, fun h => absurd h HN0.out⟩
            · have HALL : Hid (ClassOk cs i hi) := ⟨HNE.out (by first | rfl | trivial), HFI.out, HKN.out, HCY.out, by rw [HT0.out]; exact HFA.out, by rw [HT0.out]; exact fun k hk => HG.out k (by omega) hk⟩
              go_wp2_with fail
              go_ret
              exact ⟨_, rfl, hbw7, fun _ => HALL.out⟩

structure Valid (cs : List Cls) : Prop where
  len : cs.length ≤ 64
  cls : ∀ i (hi : i < cs.length), ClassOk cs i hi
def CheckR (cs : List Cls) (w : World) (e : Ending) (w' : World) : Prop := ∃ n m : Int, e = .returned (.tuple #[.int .i64 n, .int .i64 m]) ∧ Below w.heap.size w w' ∧ (m = 0 → Valid cs)
set_option maxRecDepth 100000 in
set_option maxHeartbeats 2000000 in
theorem check_some (A : Option Addr) (c : Nat) (cs : List Cls) (w : World) (hl : cs.length ≤ 8796093022208) (hcc : cs.length ≤ c) (hsl : Sl Lay.cls w A cs) (hok : Hid (StrOk cs)) (hlk : Hid (LensOk cs)) (hkw : KwAt w) :
    Calls Tryd.prog 6 #[.agg #[.slice A cs.length c]] w (CheckR cs w) := by
  have hb0 : Below w.heap.size w (w.alloc (.cells #[.slice A cs.length c] 24)) := (by repeat (first | assumption | exact Below.refl _ _ | apply bw_alloc | apply bw_drew | apply bw_drewN | apply bw_later | apply bw_step))
  by_cases h64 : 64 < cs.length
  · go_enter Tryd.func6, Tryd.ntmps6
    go_wp2_with fail
    go_ret2
    exact ⟨_, _, rfl, hb0, fun h => by cases h⟩
  · go_enter Tryd.func6, Tryd.ntmps6
    go_wp2_with fail
    refine (tableOf_any A c cs _ (by omega) hcc (hsl.mono hb0) hok.out.names).mono ?_
    rintro e w1 ⟨⟨b, rfl, hT⟩, hb1⟩
    have hbw1 := below_step hb0 hb1
    go_wp2_with fail
    have bt := Box.new w1 [.slice A cs.length c, .map (some b)] 51
    have hb2 : Below w1.heap.size w1 (w1.alloc (.cells #[.slice A cs.length c, .map (some b)] 51)) := (by repeat (first | assumption | exact Below.refl _ _ | apply bw_alloc | apply bw_drew | apply bw_drewN | apply bw_later | apply bw_step))
    go_loopw [16] (fun v wr => ∃ q : Nat, q ≤ cs.length ∧ v = .int .i64 q ∧ (∀ k (hk : k < q) (hk2 : k < cs.length), ClassOk cs k hk2) ∧ Box wr w1.heap.size [.slice A cs.length c, .map (some b)] 51 ∧ Below w1.heap.size w1 wr) (fun v _ => cs.length - (intOf v).toNat)
    case atStart => exact ⟨0, Nat.zero_le _, rfl, fun k hk => by omega, bt, hb2⟩
    case round =>
      clear bt hb2
      obtain ⟨q, hq, rfl, HC0, bt, hbw⟩ := hrel
      have HC := Lib.hid HC0
      clear HC0
      have t0 := bt.cell 0 rfl
      have t1 := bt.cell 1 rfl
      have tl := bt.lt
      have hbw2 := below_step hbw1 hbw
      by_cases hqt : q < cs.length
      · go_wp2_with fail
        refine (tClass_some A c b cs q _ (by omega) hqt (hT.mono hbw) hok hlk (hkw.mono hbw2)).mono ?_
        rintro e w3 ⟨n3, rfl, hb3, hp3⟩
        have HP := Lib.hid hp3
        clear hp3
        by_cases hn0 : n3 = 0
        · subst hn0
          have HC2 : Hid (∀ k (hk : k < q + 1) (hk2 : k < cs.length), ClassOk cs k hk2) := fun k hk hk2 => by
            by_cases ez : k = q
            · subst ez; exact HP.out rfl
            · exact HC.out k (by omega) hk2
          go_wp2_with fail
          go_roundw
          case rel => exact ⟨q + 1, by omega, by go_num, HC2.out, bt.mono hb3, below_step hbw hb3⟩
          case measure => simp [intOf]; omega
        · have hnq : (n3 != 0) = true := by simpa using hn0
          have HN0 := Lib.hid hn0
          clear hn0
          go_wp2_with fail
          go_ret2
          exact ⟨_, _, rfl, below_step hbw2 hb3, fun h => absurd h HN0.out⟩
      · have HV : Hid (Valid cs) := ⟨by omega, fun i hi => HC.out i (by omega) hi⟩
        go_wp2_with fail
        go_ret2
        exact ⟨_, _, rfl, hbw2, fun _ => HV.out⟩
end Go.Proofs.YtafincpkehlcfaaDoor
