/-
  Chapter 10: the classes below a class.
-/
import Derived.Test.YtafincpkehlcfaaHierG
import Derived.Test.YtafincpkehlcfaaGrp
namespace Go.Proofs.Ytafincpkehlcfaa
open Go.RowKit
set_option linter.unusedVariables false

/-- Class i is the first of its name, and u is its superclass. -/
def isKid (cs : List Cls) (u : Int) (i : Nat) : Bool := decide (0 ≤ supI cs i) && decide (supI cs i = u) && decide (fnd cs (nmAt cs i) = i)
def kidsTo (cs : List Cls) (n : Nat) (u : Int) : List Int := ((List.range n).filter (isKid cs u)).map Int.ofNat
def kidsI (cs : List Cls) (u : Int) : List Int := kidsTo cs cs.length u
theorem kidsTo_succ (cs : List Cls) (n : Nat) (u : Int) : kidsTo cs (n + 1) u = kidsTo cs n u ++ (if isKid cs u n then [(n : Int)] else []) := by
  unfold kidsTo
  rw [List.range_succ, List.filter_append, List.map_append]
  congr 1
  by_cases h : isKid cs u n <;> simp [h]
theorem kidsTo_len (cs : List Cls) (n : Nat) (u : Int) : (kidsTo cs n u).length ≤ n := by
  unfold kidsTo; rw [List.length_map]; exact Nat.le_trans (List.length_filter_le _ _) (by simp)
theorem kidsTo_mem {cs : List Cls} {n : Nat} {u x : Int} : x ∈ kidsTo cs n u ↔ ∃ i : Nat, x = i ∧ i < n ∧ isKid cs u i = true := by
  unfold kidsTo
  rw [List.mem_map]
  constructor
  · rintro ⟨i, hi, rfl⟩
    rw [List.mem_filter, List.mem_range] at hi
    exact ⟨i, rfl, hi.1, hi.2⟩
  · rintro ⟨i, rfl, h1, h2⟩
    exact ⟨i, by rw [List.mem_filter, List.mem_range]; exact ⟨h1, h2⟩, rfl⟩
theorem kidsTo_yes {cs : List Cls} {n u : Nat} (hu : supI cs n = u) (hf : fnd cs (nmAt cs n) = n) : kidsTo cs (n + 1) = fun z => if z = (u : Int) then kidsTo cs n u ++ [(n : Int)] else kidsTo cs n z := by
  funext z
  rw [kidsTo_succ]
  by_cases hz : z = u
  · subst hz
    have : isKid cs u n = true := by simp [isKid, hu, hf]
    rw [if_pos this, if_pos rfl]
  · have : isKid cs z n = false := by
      have : ¬ ((u : Int) = z) := fun e => hz e.symm
      simp [isKid, hu, this]
    rw [if_neg (by rw [this]; simp), if_neg hz, List.append_nil]
theorem kidsTo_no {cs : List Cls} {n : Nat} (h : ¬ (0 ≤ supI cs n ∧ fnd cs (nmAt cs n) = n)) : kidsTo cs (n + 1) = kidsTo cs n := by
  funext z
  rw [kidsTo_succ]
  have : isKid cs z n = false := by
    cases hq : isKid cs z n with
    | false => rfl
    | true =>
      simp only [isKid, Bool.and_eq_true, decide_eq_true_eq] at hq
      exact absurd ⟨hq.1.1, hq.2⟩ h
  rw [if_neg (by rw [this]; simp), List.append_nil]

/-- New ones behind. -/
def addNew (l : List Int) (r : List Int) : List Int := r.foldl (fun l x => if x ∈ l then l else l ++ [x]) l
theorem addNew_snoc (l r : List Int) (x : Int) : addNew l (r ++ [x]) = if x ∈ addNew l r then addNew l r else addNew l r ++ [x] := by unfold addNew; rw [List.foldl_append]; rfl
def bfs (kids : Int → List Int) : Nat → Nat → List Int → List Int
  | 0, _, l => l
  | f + 1, k, l => if h : k < l.length then bfs kids f (k + 1) (addNew l (kids l[k])) else l
theorem bfs_step {kids : Int → List Int} {f k : Nat} {l : List Int} (h : k < l.length) : bfs kids (f + 1) k l = bfs kids f (k + 1) (addNew l (kids l[k])) := by rw [bfs, dif_pos h]
theorem bfs_stop {kids : Int → List Int} {f k : Nat} {l : List Int} (h : ¬ k < l.length) : bfs kids f k l = l := by
  cases f with
  | zero => rfl
  | succ f => rw [bfs, dif_neg h]
structure InRange (n : Nat) (l : List Int) : Prop where
  bd : ∀ x ∈ l, 0 ≤ x ∧ x < (n : Int)
  nd : l.Nodup
theorem InRange.len {n : Nat} {l : List Int} (h : InRange n l) : l.length ≤ n := nodup_le h.nd h.bd
theorem InRange.snoc {n : Nat} {l : List Int} {x : Int} (h : InRange n l) (hx : 0 ≤ x ∧ x < (n : Int)) (hn : x ∉ l) : InRange n (l ++ [x]) := by
  refine ⟨fun y hy => ?_, ?_⟩
  · rcases List.mem_append.1 hy with hy | hy
    · exact h.bd y hy
    · simp at hy; subst hy; exact hx
  · rw [List.nodup_append]
    refine ⟨h.nd, by simp, fun a ha b hb => ?_⟩
    simp at hb; subst hb
    intro e; subst e; exact hn ha
def subsI (cs : List Cls) (s : ByteArray) : List Int := if fnd cs s < 0 then [] else bfs (kidsI cs) cs.length 0 [fnd cs s]

theorem grpKeyed : Maps.Keyed Try.prog 3 := Maps.int_keyed Try.underlying3
theorem grpZero (w : World) : (zeroValue 67).run Try.prog w = .ok (.slice none 0 0) w := by kernel_rfl
theorem GrpIs.look {w : World} {base b n : Nat} {f : Int → List Int} (h : GrpIs Try.prog 3 3 w base b n f) (hn : n < maxLen) {x : Int} (hx : okInt x) :
    ∃ v, (Instr.lookup 75 (.map (some b)) (.int .i64 x) false).run Try.prog w = .ok v w ∧ IntsV w v (f x) := by
  obtain ⟨v, h1, h2, _⟩ := h.at grpKeyed Try.underlying3 Try.underlying75 grpZero hn hx
  exact ⟨v, h1, IntsV.of_own (ownsInts_own h2)⟩

set_option maxRecDepth 100000 in
set_option maxHeartbeats 2000000 in
theorem tSubs_any (A : Option Addr) (c b : Nat) (cs : List Cls) (s : ByteArray) (w : World) (hl : cs.length ≤ 8796093022208) (hT : TabV w A c b cs) (hok : Hid (NamesOk cs)) (hs : okStr s) :
    Calls Try.prog 24 #[.agg #[.slice A cs.length c, .map (some b)], .string s] w fun e w' => (∃ v, e = .returned v ∧ Own cellsInt 1 w.heap.size 3 w' v (subsI cs s)) ∧ Below w.heap.size w w' := by
  have hfb := fnd_bd cs s
  have hmk1 := run_makeMap_none (P := Try.prog) 75 3 67 Try.underlying75
  have hmk2 := run_makeMap_none (P := Try.prog) 77 3 4 Try.underlying77
  have hb0 : Below w.heap.size w (w.alloc (.cells #[.slice A cs.length c, .map (some b)] 58)) := (by repeat (first | assumption | exact Below.refl _ _ | apply bw_alloc | apply bw_drew | apply bw_drewN | apply bw_later | apply bw_step))
  have hbx := Box.new w [.slice A cs.length c, .map (some b)] 58
  go_enter Try.func24, Try.ntmps24
  go_wp2_with fail
  refine (tFind_any A c b cs s _ (hT.mono hb0) hs).mono ?_
  rintro e w1 ⟨rfl, hb1⟩
  have hbx1 := hbx.mono hb1
  have hbw1 := below_step hb0 hb1
  clear hbx hb0 hb1
  by_cases hneg : fnd cs s < 0
  · have HS : Hid (subsI cs s = []) := by show _ = _; unfold subsI; rw [if_pos hneg]
    go_wp2_with fail
    go_ret
    exact ⟨⟨_, rfl, by rw [HS.out]; exact Own.nil⟩, hbw1⟩
  · have HS : Hid (subsI cs s = bfs (kidsI cs) cs.length 0 [fnd cs s]) := by show _ = _; unfold subsI; rw [if_neg hneg]
    obtain ⟨r, hr⟩ : ∃ r : Nat, fnd cs s = r := ⟨(fnd cs s).toNat, by omega⟩
    rw [hr] at HS hfb ⊢
    have hrl : r < cs.length := by omega
    clear hr hneg
    have e0 := hbx1.cell 0 rfl
    have e1 := hbx1.cell 1 rfl
    have hxl := hbx1.lt
    go_wp2_with fail
    have hg0 : GrpIs Try.prog 3 3 (w1.alloc (.map #[] 0)) (w1.heap.size + 1) w1.heap.size 0 (kidsTo cs 0) := GrpIs.made w1 rfl
    go_loopw [24] (fun i wr => ∃ k n : Nat, k ≤ cs.length ∧ n ≤ k ∧ i = .int .i64 k ∧ GrpIs Try.prog 3 3 wr (w1.heap.size + 1) w1.heap.size n (kidsTo cs k) ∧ Below w1.heap.size w1 wr) (fun i _ => cs.length - (intOf i).toNat)
    case atStart => exact ⟨0, 0, Nat.zero_le _, Nat.zero_le _, rfl, hg0, (by repeat (first | assumption | exact Below.refl _ _ | apply bw_alloc | apply bw_drew | apply bw_drewN | apply bw_later | apply bw_step))⟩
    case round =>
      clear hg0 hmk1
      obtain ⟨k, n, hk, hn, rfl, hgr, hbw⟩ := hrel
      have hbwk := below_step hbw1 hbw
      have hbxk := hbx1.mono hbw
      have q0 := hbxk.cell 0 rfl
      have q1 := hbxk.cell 1 rfl
      have hxk := hbxk.lt
      clear e0 e1
      by_cases hlt : k < cs.length
      · obtain ⟨b0, o, A2, c2, A3, c3, rfl, hb, d0, d1, d2, d3, hc2, hs2, hc3, hs3⟩ := (hT.sl.mono hbwk).cls_at hlt
        go_wp2_with fail
        have hb4 : Below wr.heap.size wr (wr.alloc (.cells #[.string cs[k].name, .string cs[k].super, .slice A2 cs[k].fields.length c2, .slice A3 cs[k].methods.length c3] 35)) := (by repeat (first | assumption | exact Below.refl _ _ | apply bw_alloc | apply bw_drew | apply bw_drewN | apply bw_later | apply bw_step))
        have hbc4 := Box.new wr [.string cs[k].name, .string cs[k].super, .slice A2 cs[k].fields.length c2, .slice A3 cs[k].methods.length c3] 35
        refine (tSuper_any _ c b cs k _ (by omega) hlt (hT.mono (below_step hbwk hb4)) hok).mono ?_
        rintro e w5 ⟨rfl, hb5⟩
        have hb45 := below_step hb4 hb5
        have hbw5 := below_step hbw hb45
        have hbx5 := hbxk.mono hb45
        have hbc5 := hbc4.mono hb5
        have hgr5 := hgr.mono hb45
        have hsb := supI_bd cs k
        have HNM := Lib.hid (nmAt_nat hlt)
        have HKN := Lib.hid (@kidsTo_no cs k)
        rw [HNM.out] at HKN
        clear q0 q1 d0 d1 d2 d3 hbxk hbc4 hb4 hb5 hgr
        have q0 := hbx5.cell 0 rfl
        have q1 := hbx5.cell 1 rfl
        have hx5 := hbx5.lt
        have p0 := hbc5.cell 0 rfl
        have hc5 := hbc5.lt
        by_cases hup : 0 ≤ supI cs k
        · obtain ⟨u, hu⟩ : ∃ u : Nat, supI cs k = u := ⟨(supI cs k).toNat, by omega⟩
          have HKY := Lib.hid (@kidsTo_yes cs k u hu)
          rw [HNM.out] at HKY
          rw [hu] at HKN hsb hup ⊢
          have HU := Lib.hid hu
          clear hu
          have hnk : okStr cs[k].name := (hok.out _ (List.getElem_mem hlt)).1
          go_wp2_with fail
          refine (tFind_any _ c b cs cs[k].name _ (hT.mono (below_step hbw1 hbw5)) hnk).mono ?_
          rintro e w6 ⟨rfl, hb6⟩
          have hbw6 := below_step hbw5 hb6
          have hgr6 := hgr5.mono hb6
          have hsz6 := hgr6.lt.1
          clear q0 q1 p0 hgr5
          by_cases heq : fnd cs cs[k].name = k
          · have HE := Lib.hid (HKY.out heq)
            have he1 : (fnd cs cs[k].name == (k : Int)) = true := by simp [heq]
            obtain ⟨v, hrun, hoi, hzl, hback⟩ := hgr6.at (t := 75) (E := 67) grpKeyed Try.underlying3 Try.underlying75 grpZero (by unfold maxLen; omega) (x := (u : Int)) (okInt_of (by omega) (by omega))
            have HBK := Lib.hid hback
            clear hback heq
            have hkl := kidsTo_len cs k u
            have hkm : Hid (∀ z ∈ kidsTo cs k u ++ [(k : Int)], okInt z) := fun z hz => by
              rcases List.mem_append.1 hz with hz | hz
              · obtain ⟨i, rfl, hi, _⟩ := kidsTo_mem.1 hz
                exact okInt_of (by omega) (by omega)
              · simp at hz; subst hz; exact okInt_of (by omega) (by omega)
            go_wp2_with (first | (at_builtin; refine wpList_pushL intsTy cellsInt_ok rfl (.tmp 46) (.tmp 48) rfl (w1.heap.size + 1) v (kidsTo cs k u) rfl ((ownsInts_own hoi).alloc _) (k : Int) _ _ rfl (cells_one_new _ _ _) (by unfold maxLen; omega) (by omega) ?_ ?_; (simp; omega); intro v7 w7 hown7 hg7 hloc7; have hg67 := (World.grownBy_alloc w6 _ _).trans hg7; obtain ⟨w8, hr8, hgr8, hg8⟩ := HBK.out w7 v7 (k : Int) (okInt_of (by omega) (by omega)) hg67 (own_ownsInts hown7 hkm.out) (hloc7.imp id (fun ⟨g, h1, h2⟩ => ⟨g, h1, by simp at h2; omega⟩))) | (at_mapUpdate; refine wpList_mapRun rfl (.tmp 42) (.tmp 43) (.tmp 49) rfl _ _ _ rfl rfl rfl hr8 ?_))
            go_roundw
            case rel => exact ⟨k + 1, n + 1, by omega, by omega, by go_num, by rw [HE.out]; exact hgr8, RowKit.Below.groups hbw6 hoi hg67 hg8 hbw6.size (by omega) (by omega)⟩
            case measure => simp [intOf]; omega
          · have HE := Lib.hid (HKN.out (fun h => heq h.2))
            have he1 : (fnd cs cs[k].name == (k : Int)) = false := by simpa using heq
            clear heq
            go_wp2_with fail
            go_roundw
            case rel => exact ⟨k + 1, n, by omega, by omega, by go_num, by rw [HE.out]; exact hgr6, hbw6⟩
            case measure => simp [intOf]; omega
        · have HE := Lib.hid (HKN.out (fun h => hup h.1))
          go_wp2_with fail
          go_roundw
          case rel => exact ⟨k + 1, n, by omega, by omega, by go_num, by rw [HE.out]; exact hgr5, hbw5⟩
          case measure => simp [intOf]; omega
      · obtain rfl : k = cs.length := by omega
        have HGR := Lib.hid hgr
        clear hgr q0 q1 hbxk hbx1
        have hm0 := MapIs.made0 intBoolTy (wr.alloc (.cells #[.int .i64 r] 3)) (b := wr.heap.size + 1) (by simp) (f := seenF []) (fun x => by simp [seenF])
        obtain ⟨w3, hr3, hm3, hg3⟩ := hm0.set (x := (r : Int)) (y := true) (okInt_of (by omega) (by omega)) trivial (by unfold maxLen; omega)
        rw [← seenF_snoc, List.nil_append] at hm3
        have hown0 : Own cellsInt 1 wr.heap.size 3 (wr.alloc (.cells #[.int .i64 r] 3)) (.slice (some ⟨wr.heap.size, 0, none⟩) 1 1) [(r : Int)] := Own.lit wr #[.int .i64 r] [(r : Int)] (Nat.le_refl _) (by simp [maxLen]) (by simp) rfl
        have hown3 := World.ownsRow.kept (hown0.alloc (.map #[] 0)) hg3 (own_ne_map (hown0.alloc _) hm0)
        have hbw3 : Below wr.heap.size wr w3 := (bw_alloc (bw_alloc (Below.refl _ _))).grown hg3 (by simp; omega) (fun k hk => by injection hk with hk; omega)
        clear hm0 hg3 hown0
        go_wp2_with fail
        clear hr3 hmk2
        obtain ⟨W, rfl⟩ : ∃ W : World, W = wr := ⟨_, rfl⟩
        go_loopw [10, 12] (fun v10 v12 wr => ∃ (l : List Int) (k f : Nat), k ≤ l.length ∧ f + k = cs.length ∧ v12 = .int .i64 k ∧ bfs (kidsI cs) cs.length 0 [(r : Int)] = bfs (kidsI cs) f k l ∧ InRange cs.length l
            ∧ Own cellsInt 1 W.heap.size 3 wr v10 l ∧ MapIs intBoolTy wr (W.heap.size + 1) l.length (seenF l) ∧ Below W.heap.size W wr) (fun _ v12 _ => cs.length - (intOf v12).toNat)
        case atStart => exact ⟨[(r : Int)], 0, cs.length, by simp, rfl, rfl, rfl, ⟨fun x hx => by simp at hx; subst hx; omega, by simp⟩, hown3, hm3, hbw3⟩
        case round =>
          clear hown3 hm3 hbw3
          obtain ⟨l, k, f, hkl, hfk, rfl, HB0, hir, hown, hm, hbw4⟩ := hrel
          have HB := Lib.hid HB0
          have HIR := Lib.hid hir
          have hll := hir.len
          clear HB0 hir
          obtain ⟨Al, cl, rfl, hcl, hsl⟩ := IntsV.of_own hown
          by_cases hlt : k < l.length
          · obtain ⟨bl, ol, rfl, hbl, dl⟩ := hsl.int_at hlt
            have hlk := HIR.out.bd l[k] (List.getElem_mem hlt)
            obtain ⟨v, hrun, hoi⟩ := HGR.out.lookLater (t := 75) (E := 67) grpKeyed Try.underlying3 Try.underlying75 grpZero hbw4 (x := l[k]) (okInt_of (by omega) (by omega))
            have hKl := kidsTo_len cs cs.length l[k]
            have HKM : Hid (∀ x ∈ kidsI cs l[k], 0 ≤ x ∧ x < (cs.length : Int)) := fun x hx => by
              obtain ⟨i, rfl, hi, _⟩ := kidsTo_mem.1 hx
              omega
            obtain ⟨f', rfl⟩ : ∃ f', f = f' + 1 := ⟨f - 1, by omega⟩
            have HST := Lib.hid (bfs_step (kids := kidsI cs) (f := f') hlt)
            change (kidsI cs l[k]).length ≤ cs.length at hKl
            change W.ownsInts (w1.heap.size + 1) 3 .i64 v (kidsI cs l[k]) at hoi
            generalize kidsI cs l[k] = KK at *
            obtain ⟨AK, cK, rfl, hcK, hsK⟩ := IntsV.of_own (ownsInts_own hoi)
            go_wp2_with fail
            clear dl hrun hsl hoi
            obtain ⟨wo, rfl⟩ : ∃ wo : World, wo = wr := ⟨_, rfl⟩
            go_loopw [10, 69] (fun v10 v69 wr => ∃ (l2 : List Int) (j : Nat), j ≤ KK.length ∧ v69 = .int .i64 j ∧ l2 = addNew l (KK.take j) ∧ l.length ≤ l2.length ∧ InRange cs.length l2
              ∧ Own cellsInt 1 W.heap.size 3 wr v10 l2 ∧ MapIs intBoolTy wr (W.heap.size + 1) l2.length (seenF l2) ∧ Below W.heap.size W wr) (fun _ v69 _ => KK.length - (intOf v69).toNat)
            case atStart => exact ⟨l, 0, Nat.zero_le _, rfl, rfl, Nat.le_refl _, HIR.out, hown, hm, hbw4⟩
            case round =>
              clear hown hm hbw4 hbl
              obtain ⟨l2, j, hj, rfl, HL0, hll2, hir2, hown, hm, hbw5⟩ := hrel
              have HL2 := Lib.hid HL0
              have HIR2 := Lib.hid hir2
              have hlen2 := hir2.len
              clear HL0 hir2
              by_cases hjt : j < KK.length
              · obtain ⟨bK, oK, rfl, hbK, dK⟩ := (hsK.mono hbw5).int_at hjt
                have hkb := HKM.out KK[j] (List.getElem_mem hjt)
                have hlook := hm.look (x := KK[j]) (okInt_of (by omega) (by omega))
                rw [seenF_get] at hlook
                have HAN := Lib.hid (addNew_snoc l (KK.take j) KK[j])
                rw [← List.take_succ_eq_append_getElem hjt, ← HL2.out] at HAN
                by_cases hin : KK[j] ∈ l2
                · rw [if_pos hin] at HAN
                  rw [decide_eq_true hin] at hlook
                  clear hin
                  go_wp2_with fail
                  go_roundw
                  case rel => exact ⟨l2, j + 1, by omega, by go_num, by rw [HAN.out], hll2, HIR2.out, hown, hm, hbw5⟩
                  case measure => simp [intOf]; omega
                · have HSN := Lib.hid (seenF_snoc l2 KK[j])
                  have HI3 := Lib.hid (HIR2.out.snoc hkb hin)
                  have hl3 := HI3.out.len
                  rw [List.length_append] at hl3
                  simp only [List.length_singleton] at hl3
                  rw [if_neg hin] at HAN
                  rw [decide_eq_false hin] at hlook
                  clear hin
                  have hne1 := own_ne_map hown hm
                  have hsz5 := hbw5.size
                  have hmlt := hm.lt
                  go_wp2_with (first | (at_mapUpdate; refine wpList_mapSet intBoolTy rfl (.tmp 77) (.tmp 78) _ rfl (W.heap.size + 1) l2.length _ rfl hm (by unfold maxLen; omega) KK[j] true rfl rfl (okInt_of (by omega) (by omega)) trivial ?_; intro w6 hm6 hg6; have hown6 := World.ownsRow.kept hown hg6 hne1; have hbw6 := hbw5.grown hg6 hbw5.size (fun k hk => by injection hk with hk; omega); have hmlt6 := hm6.lt) | (at_builtin; refine wpList_pushG intsTy cellsInt_ok rfl (.tmp 79) (.tmp 81) rfl W.heap.size _ l2 rfl (Own.alloc hown6 _) KK[j] _ _ rfl (cells_one_new _ _ _) (by unfold maxLen; omega) (by omega) ?_ ?_; (simp; omega); intro v7 w7 hown7 hb7 hg7))
                  go_roundw
                  case rel => exact ⟨l2 ++ [KK[j]], j + 1, by omega, by go_num, by rw [HAN.out], by rw [List.length_append]; omega, HI3.out, hown7, by
                    rw [HSN.out, List.length_append]
                    exact (hm6.alloc _).kept hg7 (own_ne_map' hown6 hm6), (bw_alloc hbw6).trans hb7⟩
                  case measure => simp [intOf]; omega
              · have HT := Lib.hid (show KK.take j = KK from List.take_of_length_le (by omega))
                rw [HT.out] at HL2
                go_wp2_with fail
                go_roundw
                case rel => exact ⟨l2, k + 1, f', by omega, by omega, by go_num, by rw [HB.out, HST.out, HL2.out], HIR2.out, hown, hm, hbw5⟩
                case measure => simp [intOf]; omega
          · have HE := Lib.hid (bfs_stop (kids := kidsI cs) (f := f) hlt)
            rw [HE.out] at HB
            go_wp2_with fail
            go_ret
            exact ⟨⟨_, rfl, by rw [HS.out, HB.out]; exact hown.weaken (by have := hbw1.size; have := hbw.size; omega)⟩, below_step hbwk hbw4⟩
end Go.Proofs.Ytafincpkehlcfaa
