/-
  (tree).body: it returns.
-/
import Derived.Test.YthlpndgfphjlkaaDomG
namespace Go.Proofs.Ythlpndgfphjlkaa
open Go.RowKit
set_option linter.unusedVariables false

/-- A finished tree, laid in memory. -/
structure TreV (E : List (Int × Int)) (n s : Nat) (post : List Nat) (ordL upL : List Int) (r : Nat) (U : Nat → Option Nat) (AU AO AP : Option Addr) (w : World) : Prop where
  ok : TreeOk E n s post ordL upL r U
  hU : Sl Lay.int w AU upL
  hO : Sl Lay.int w AO ordL
  hP : PredS w AP (predsOf E n)
  hE : ∀ p ∈ E, inG n p
  nn : n ≤ 8192
  el : E.length ≤ 32768
section
variable {E : List (Int × Int)} {n s r : Nat} {post : List Nat} {ordL upL : List Int} {U : Nat → Option Nat} {AU AO AP : Option Addr} {w w' : World}
theorem TreV.mono (h : TreV E n s post ordL upL r U AU AO AP w) (hb : Below w.heap.size w w') : TreV E n s post ordL upL r U AU AO AP w' := ⟨h.ok, h.hU.mono hb, h.hO.mono hb, h.hP.mono hb, h.hE, h.nn, h.el⟩
end
theorem reachable_n {E : List (Int × Int)} {n s : Nat} {post : List Nat} {ordL upL : List Int} {r : Nat} {U : Nat → Option Nat} (AU AO AP : Option Addr) (cU cO cP : Nat) (v : Nat) (w : World) (hT : TreV E n s post ordL upL r U AU AO AP w) (hv : v < n) :
    Calls Try.prog 62 #[.agg #[.slice AU n cU, .slice AO n cO, .slice AP n cP], .int .i64 (v : Nat)] w fun e w' => e = .returned (.bool (ordN post v).isSome) ∧ Below w.heap.size w w' := by
  have h := reachable_any n r post ordL upL U AU AO AP cU cO n cP v w (by have := hT.nn; omega) hT.ok.tree hv hT.hO
  rw [hT.ok.tree.ul, hT.ok.tree.ol] at h
  exact h
theorem dominates_n {E : List (Int × Int)} {n s : Nat} {post : List Nat} {ordL upL : List Int} {r : Nat} {U : Nat → Option Nat} (AU AO AP : Option Addr) (cU cO cP : Nat) (a b : Nat) (w : World) (hT : TreV E n s post ordL upL r U AU AO AP w) (ha : a < n) (hb : b < n) :
    Calls Try.prog 44 #[.agg #[.slice AU n cU, .slice AO n cO, .slice AP n cP], .int .i64 (a : Nat), .int .i64 (b : Nat)] w fun e w' => (∃ x, e = .returned (.bool x) ∧ Hid (x = true ↔ RA E s none a ∧ RA E s none b ∧ ¬ RA E s (some a) b)) ∧ Below w.heap.size w w' := by
  have h := dominates_any n r post ordL upL U AU AO AP cU cO n cP a b w (by have := hT.nn; omega) hT.ok.tree hT.ok.wf ha hb hT.hU hT.hO
  rw [hT.ok.tree.ul, hT.ok.tree.ol] at h
  refine h.mono ?_
  rintro e w' ⟨⟨x, rfl, hx⟩, hb'⟩
  exact ⟨⟨x, rfl, hx.trans (hT.ok.says hT.hE a b)⟩, hb'⟩
/-- What the search of a loop's body holds in memory. -/
structure BM (base gt gv go rv n : Nat) (AU AO AP : Option Addr) (cU cO cP : Nat) (seen : List Bool) (L : List Nat) (v : Value) (w W : World) : Prop where
  vis : Vis base gv go rv seen L v W
  bt : Box W gt [.slice AU n cU, .slice AO n cO, .slice AP n cP] 80
  bel : Below base w W
section
variable {base gt gv go rv n : Nat} {AU AO AP : Option Addr} {cU cO cP : Nat} {seen seen' : List Bool} {L L' : List Nat} {v v' : Value} {w W W' : World}
theorem BM.mono (h : BM base gt gv go rv n AU AO AP cU cO cP seen L v w W) (hb : Below W.heap.size W W') : BM base gt gv go rv n AU AO AP cU cO cP seen L v w W' := ⟨h.vis.mono hb, h.bt.mono hb, h.bel.trans (hb.mono h.vis.sz)⟩
theorem BM.turn (h : BM base gt gv go rv n AU AO AP cU cO cP seen L v w W) (hv : Vis base gv go rv seen' L' v' W') (k : Turn rv go v W v' W') : BM base gt gv go rv n AU AO AP cU cO cP seen' L' v' w W' :=
  ⟨hv, h.bt.turn h.vis k (by decide) (by decide) (by decide), h.bel.trans (h.vis.bel k)⟩
end
/-- What one visit leaves. -/
structure BodR (n : Nat) (seen : List Bool) (L : List Nat) (x : Nat) (seen' : List Bool) (L' : List Nat) : Prop where
  len : seen'.length = n
  cnt : L'.length ≤ seen'.count true
  mem : ∀ y ∈ L', y ∈ L ∨ y = x
  pre : ∃ t, L' = L ++ t
set_option maxRecDepth 100000 in
set_option maxHeartbeats 2000000 in
theorem body1_any {E : List (Int × Int)} {n s : Nat} {post : List Nat} {ordL upL : List Int} {r : Nat} {U : Nat → Option Nat} (base gt gv go rv : Nat) (AU AO AP : Option Addr) (cU cO cP : Nat) (seen : List Bool) (L : List Nat) (v : Value) (x : Nat) (w W : World) (hT : TreV E n s post ordL upL r U AU AO AP W) (hM : BM base gt gv go rv n AU AO AP cU cO cP seen L v w W) (hl : seen.length = n) (hx : x < n) (hL : L.length ≤ seen.count true) :
    Calls Try.prog 63 #[.int .i64 (x : Nat), .pointer (some ⟨gv, 0, none⟩), .pointer (some ⟨gt, 0, none⟩), .pointer (some ⟨go, 0, none⟩)] W fun e W' => (∃ u, e = .returned u) ∧ ∃ seen' L' v', BM base gt gv go rv n AU AO AP cU cO cP seen' L' v' w W' ∧ BodR n seen L x seen' L' := by
  have hnn := hT.nn
  have p0 := hM.vis.bv.cell 0 rfl
  have pl := hM.vis.bv.lt
  have HL := Lib.hid hl
  have HLL := Lib.hid hL
  have hxs : x < seen.length := by omega
  have c0 := hM.vis.ov.at1 rfl hxs
  have rl := hM.vis.rvs.2
  have hxI : (x : Int) < (seen.length : Int) := by omega
  have t0 := hM.bt.cell 0 rfl
  have t1 := hM.bt.cell 1 rfl
  have t2 := hM.bt.cell 2 rfl
  have tl := hM.bt.lt
  have HRC := Lib.hid (reachable_n AU AO AP cU cO cP x W hT hx)
  have hLn : L.length ≤ 10000 := by
    have h1 : seen.count true ≤ seen.length := List.count_le_length
    omega
  have HS : Hid (BodR n seen L x seen L) := ⟨hl, hL, fun y hy => Or.inl hy, [], by simp⟩
  cases hs : seen[x] with
  | true =>
    rw [hs] at c0
    clear hs hL hl
    go_enter Try.func63, Try.ntmps63
    go_wp2_with fail
    go_end0
    exact ⟨⟨_, rfl⟩, _, _, _, hM, HS.out⟩
  | false =>
    have HSF : Hid (seen[x]? = some false) := by show _ = _; rw [List.getElem?_eq_getElem hxs, hs]
    rw [hs] at c0
    clear hs hL hl
    go_enter Try.func63, Try.ntmps63
    go_wp2_with fail
    refine HRC.out.mono ?_
    rintro e W2 ⟨rfl, hb2⟩
    have hM2 := hM.mono hb2
    generalize (ordN post x).isSome = b
    clear p0 pl c0 rl t0 t1 t2 tl hM
    cases b with
    | false =>
      go_wp2_with fail
      go_end0
      exact ⟨⟨_, rfl⟩, _, _, _, hM2, HS.out⟩
    | true =>
      have p0 := hM2.vis.bv.cell 0 rfl
      have pl := hM2.vis.bv.lt
      obtain ⟨q0, c0⟩ : ∃ q, W2.cell? ⟨rv, x, none⟩ = some q := ⟨_, hM2.vis.ov.at1 rfl hxs⟩
      have rl := hM2.vis.rvs.2
      have rf := hM2.vis.ov.free1 rfl x
      obtain ⟨h1, k1⟩ := hM2.vis.mark x
      go_upto_region 2 with fail
      have hM3 := hM2.turn h1 k1
      clear p0 pl c0 rl rf hM2 k1
      generalize World.setCell _ _ _ = W3 at *
      obtain ⟨A', m', c', rfl, v', w', hrun, hbx, ⟨B, q, d, rfl⟩, h2, k2⟩ := h1.push x (by omega)
      have q0 := h1.bo.cell 0 rfl
      have ql := h1.bo.lt
      have z0 := hbx.cell 0 rfl
      have zl := hbx.lt
      have zf := fun i => hbx.free i
      have HF := Lib.hid (hM3.turn h2 k2)
      have HB : Hid (BodR n seen L x (seen.set x true) (L ++ [x])) := by
        refine ⟨by rw [List.length_set]; exact HL.out, ?_, fun y hy => ?_, [x], rfl⟩
        · rw [count_set HSF.out, List.length_append, List.length_singleton]
          have := HLL.out
          omega
        · rcases List.mem_append.1 hy with h | h
          · exact Or.inl h
          · simp at h; exact Or.inr h
      go_wp2_with (at_builtin; refine wpList_appendRun rfl (.tmp 18) (.tmp 20) 38 rfl rfl rfl hrun ?_)
      go_end0
      exact ⟨⟨_, rfl⟩, _, _, _, HF.out, HB.out⟩
def RetAny (e : Ending) : Prop := ∃ A m c, e = .returned (.slice A m c)
theorem BodR.trans {n : Nat} {seen seen1 : List Bool} {L L1 : List Nat} {x : Nat} (h : BodR n seen L x seen1 L1) (hx : x < n) (hL : ∀ y ∈ L, y < n) : ∀ y ∈ L1, y < n := fun y hy => by
  rcases h.mem y hy with h1 | h1
  · exact hL y h1
  · omega
/-- Between two visits. -/
structure BI (n i : Nat) (seen : List Bool) (L : List Nat) : Prop where
  len : seen.length = n
  cnt : L.length ≤ seen.count true
  rng : ∀ y ∈ L, y < n
  il : i ≤ L.length
theorem BI.visit {n i x : Nat} {seen seen' : List Bool} {L L' : List Nat} (h : BI n i seen L) (hx : x < n) (k : BodR n seen L x seen' L') : BI n i seen' L' :=
  ⟨k.len, k.cnt, k.trans hx h.rng, by obtain ⟨t, ht⟩ := k.pre; rw [ht, List.length_append]; have := h.il; omega⟩
theorem BI.le {n i : Nat} {seen : List Bool} {L : List Nat} (h : BI n i seen L) : L.length ≤ n := by
  have h1 : seen.count true ≤ seen.length := List.count_le_length
  have := h.cnt
  have := h.len
  omega
set_option maxRecDepth 100000 in
set_option maxHeartbeats 4000000 in
theorem body_any {E : List (Int × Int)} {n s : Nat} {post : List Nat} {ordL upL : List Int} {r : Nat} {U : Nat → Option Nat} (AU AO AP : Option Addr) (cU cO cP : Nat) (h : Nat) (AS : Option Addr) (cS : Nat) (ss : List Nat) (w : World) (hT : TreV E n s post ordL upL r U AU AO AP w) (hh : h < n) (hsl : Sl Lay.int w AS (ss.map fun (x : Nat) => (x : Int))) (hss : Hid (∀ x ∈ ss, x < n)) (hsn : ss.length ≤ 40000) :
    Calls Try.prog 45 #[.agg #[.slice AU n cU, .slice AO n cO, .slice AP n cP], .int .i64 (h : Nat), .slice AS ss.length cS] w fun e w' => RetAny e ∧ Below w.heap.size w w' := by
  have hnn := hT.nn
  have HT := Lib.hid hT
  have hmk : ∀ W, (Instr.makeSlice 36 (.int .i64 (n : Nat)) (.int .i64 (n : Nat))).run Try.prog W = .ok (.slice (some ⟨W.heap.size, 0, none⟩) n n) (W.alloc (.cells (madeCells #[.bool false] n) 4)) := fun W => by
    have := boolTy.make .i64 .i64 n (by omega) (by omega) W
    rw [Nat.mul_one] at this
    exact this
  have hb0 : Below w.heap.size w (w.alloc (.cells #[.slice AU n cU, .slice AO n cO, .slice AP n cP] 80)) := (by repeat (first | assumption | exact Below.refl _ _ | apply bw_alloc | apply bw_drew | apply bw_drewN | apply bw_later | apply bw_step))
  have bt0 : Box (w.alloc (.cells #[.slice AU n cU, .slice AO n cO, .slice AP n cP] 80)) w.heap.size [.slice AU n cU, .slice AO n cO, .slice AP n cP] 80 := Box.new _ _ _
  have hhI : (h : Int) < (n : Int) := by omega
  clear hT
  go_enter Try.func45, Try.ntmps45
  go_upto_region 2 with fail
  generalize hW : World.alloc _ _ = W1
  have bt1 : Box W1 w.heap.size [.slice AU n cU, .slice AO n cO, .slice AP n cP] 80 := by rw [← hW]; exact (bt0.alloc _).alloc _
  have ov1 : Own (fun x : Bool => [Value.bool x]) 1 w.heap.size 4 W1 (.slice (some ⟨w.heap.size + 1, 0, none⟩) n n) (List.replicate n false) := by
    rw [← hW]
    exact (Own.madeAt (c := Value.bool) (.bool false) _ n (List.replicate n false) (by simp) (by simp) (by omega) (by unfold maxLen; omega) (by simp)).alloc _
  have bv1 : Box W1 (w.heap.size + 2) [.slice (some ⟨w.heap.size + 1, 0, none⟩) n n] 36 := by rw [← hW]; exact Box.at (by simp)
  have hbel1 : Below w.heap.size w W1 := by rw [← hW]; exact bw_alloc (bw_alloc hb0)
  have hz1 : W1.heap.size = w.heap.size + 3 := by rw [← hW]; simp
  clear hW bt0 hb0 hmk
  obtain ⟨q0, m0⟩ : ∃ q, W1.cell? ⟨w.heap.size + 1, h, none⟩ = some q := ⟨_, ov1.at1 (by simp) (i := h) (by simpa using hh)⟩
  have mf := ov1.free1 (by simp) h
  have ml := ov1.ge1.2
  have p0 := bv1.cell 0 rfl
  have pl := bv1.lt
  have hg2 := grown_set W1 (w.heap.size + 1) h (.bool true)
  have ov2 : Own (fun x : Bool => [Value.bool x]) 1 w.heap.size 4 _ (.slice (some ⟨w.heap.size + 1, 0, none⟩) n n) _ := ov1.set1 (by simp) h true
  have bv2 := bv1.grown hg2 (by simp)
  have bt2 := bt1.grown hg2 (by simp)
  have hbel2 := hbel1.setCell (p := ⟨w.heap.size + 1, h, none⟩) (by simp) (.bool true)
  have hz2 : (W1.setCell ⟨w.heap.size + 1, h, none⟩ (.bool true)).heap.size = w.heap.size + 3 := by simp [hz1]
  go_upto_region 3 with fail
  clear m0 mf ml p0 pl hg2 ov1 bv1 bt1 hbel1 hz1
  generalize World.setCell _ _ _ = W2 at *
  have HC0 : Hid (BI n 0 ((List.replicate n false).set h true) []) := ⟨by simp, by simp, fun y hy => by simp at hy, by simp⟩
  have hlen : ((List.replicate n false).set h true).length = n := by simp
  generalize (List.replicate n false).set h true = seen0 at *
  have hM3 : BM w.heap.size w.heap.size (w.heap.size + 2) (w.heap.size + 3) (w.heap.size + 1) n AU AO AP cU cO cP seen0 [] (.slice none 0 0) w (W2.alloc (.cells #[.slice none 0 0] 38)) := by
    refine ⟨⟨?_, ?_, Box.at hz2, Own.nil, by omega, by omega, by simp [hz2]; omega⟩, bt2.alloc _, bw_alloc hbel2⟩
    · rw [hlen]; exact bv2.alloc _
    · rw [hlen]; exact ov2.alloc _
  clear bt2 bv2 ov2 hbel2 hlen
  go_upto_region 5 with fail
  generalize World.alloc _ _ = W3 at *
  clear hz2
  go_wp2_with fail
  go_loopw [28] (fun v28 wr => ∃ (j : Nat) (seen : List Bool) (L : List Nat) (v : Value), j ≤ ss.length ∧ v28 = .int .i64 j ∧ BM w.heap.size w.heap.size (w.heap.size + 2) (w.heap.size + 3) (w.heap.size + 1) n AU AO AP cU cO cP seen L v w wr ∧ Hid (BI n 0 seen L)) (fun v28 _ => ss.length - (intOf v28).toNat)
  case atStart => exact ⟨0, seen0, [], _, Nat.zero_le _, rfl, hM3, HC0⟩
  case round =>
    clear hM3 HC0
    obtain ⟨j, seen, L, v, hj, rfl, hM, HI⟩ := hrel
    by_cases hlt : j < ss.length
    · have HTW := Lib.hid (HT.out.mono hM.bel)
      obtain ⟨bS, oS, rfl, hbS, dS⟩ := (hsl.mono hM.bel).int_at (i := j) (by rw [List.length_map]; exact hlt)
      simp only [List.getElem_map] at dS
      obtain ⟨x, hx⟩ : ∃ x, x = ss[j] := ⟨_, rfl⟩
      have hxn : x < n := by rw [hx]; exact hss.out _ (List.getElem_mem hlt)
      rw [← hx] at dS
      have hjI : (j : Int) < (ss.length : Int) := by omega
      have HJT := Lib.hid hlt
      have hjb : j < 50000 := by omega
      clear hx
      go_wp2_with fail
      refine (body1_any _ _ _ _ _ _ _ _ _ _ _ seen L v x w _ HTW.out hM HI.out.len hxn HI.out.cnt).mono ?_
      rintro e W4 ⟨⟨u, rfl⟩, seen', L', v', hM', hR⟩
      have HI2 : Hid (BI n 0 seen' L') := HI.out.visit hxn hR
      clear hM HI hR dS hbS
      go_wp2_with fail
      go_roundw
      case rel => exact ⟨j + 1, _, _, _, HJT.out, by go_num, hM', HI2⟩
      case measure => have := HJT.out; simp only [intOf]; omega
    · obtain rfl : j = ss.length := by omega
      clear hlt hj
      obtain ⟨wo, rfl⟩ : ∃ wo : World, wo = wr := ⟨_, rfl⟩
      go_wp2_with fail
      go_loopw [12] (fun v12 wr => ∃ (i : Nat) (seen : List Bool) (L : List Nat) (v : Value), v12 = .int .i64 i ∧ BM w.heap.size w.heap.size (w.heap.size + 2) (w.heap.size + 3) (w.heap.size + 1) n AU AO AP cU cO cP seen L v w wr ∧ Hid (BI n i seen L)) (fun v12 _ => n - (intOf v12).toNat)
      case atStart => exact ⟨0, _, _, _, rfl, hM, HI⟩
      case round =>
        clear hM HI
        clear seen L v
        obtain ⟨i, seen, L, v, rfl, hM, HI⟩ := hrel
        have q0 := hM.vis.bo.cell 0 rfl
        have ql := hM.vis.bo.lt
        obtain ⟨A3, c3, hv3, hc3, hs3⟩ := hM.vis.oo.sl (L := Lay.int) rfl (fun x => rfl)
        rw [List.length_map] at hv3 hc3
        have HIL := Lib.hid HI.out.le
        have hib : i < 20000 := by have := HIL.out; have := HI.out.il; omega
        have hLb : L.length ≤ 8192 := by have := HIL.out; omega
        by_cases hlt : i < L.length
        · obtain ⟨b3, o3, rfl, hb3, d3⟩ := hs3.int_at (i := i) (by rw [List.length_map]; exact hlt)
          simp only [List.getElem_map] at d3
          subst hv3
          obtain ⟨x, hx⟩ : ∃ x, x = L[i] := ⟨_, rfl⟩
          have hxn : x < n := by rw [hx]; exact HI.out.rng _ (List.getElem_mem hlt)
          rw [← hx] at d3
          have hTW := HT.out.mono hM.bel
          obtain ⟨bP, oP, A4, c4, hAP, hbP0, d40, hs4⟩ := HT.out.hP x (by rw [predsOf_len]; exact hxn)
          obtain ⟨P, HP⟩ : ∃ P, Hid (P = predL E x) := ⟨_, Lib.hid rfl⟩
          rw [predsOf_at, ← HP.out] at d40 hs4
          have d4 := keptC d40 hbP0 hM.bel
          have hbP := Nat.lt_of_lt_of_le hbP0 hM.bel.size
          have HPN : Hid (∀ y ∈ P, y < n) := fun y hy => by
            rw [HP.out] at hy
            have := (hTW.hE _ ((mem_predL hTW.hE).1 hy)).2.1
            dsimp only at this
            omega
          have hPl : P.length ≤ 40000 := by rw [HP.out]; have := predL_len E x; have := hTW.el; omega
          have t2 := hM.bt.cell 2 rfl
          have tl := hM.bt.lt
          rw [hAP] at t2
          have hiI : (i : Int) < (L.length : Int) := by omega
          have hxI : (x : Int) < (n : Int) := by omega
          have HLT := Lib.hid hlt
          clear hx hTW hs3 hAP
          go_upto_region 13 with fail
          refine wp_region_later (by kernel_rfl) (by kernel_rfl) ?_
          repeat (go_big_quiet_step (fail))
          refine wpQuiet_nil ?_
          rintro _ ⟨z, rfl⟩
          have hMz := hM.mono z.h
          clear q0 ql d3 d4 d40 hbP0 t2 tl hM hb3 hbP
          generalize z.W = wz at *
          go_wp2_with fail
          go_loopw [51] (fun v51 wr2 => ∃ (j : Nat) (seen : List Bool) (L : List Nat) (v : Value), j ≤ P.length ∧ v51 = .int .i64 j ∧ BM w.heap.size w.heap.size (w.heap.size + 2) (w.heap.size + 3) (w.heap.size + 1) n AU AO AP cU cO cP seen L v w wr2 ∧ Hid (BI n i seen L) ∧ Hid (i < L.length)) (fun v51 _ => P.length - (intOf v51).toNat)
          case atStart => exact ⟨0, seen, L, _, Nat.zero_le _, rfl, hMz, HI, HLT⟩
          case round =>
            clear hMz HI HLT
            obtain ⟨j, seen2, L2, v2, hj, rfl, hM, HI, HLT⟩ := hrel
            by_cases hjt : j < P.length
            · have HTW := Lib.hid (HT.out.mono hM.bel)
              obtain ⟨bS, oS, rfl, hbS, dS⟩ := (hs4.mono hM.bel).int_at (i := j) (by rw [List.length_map]; exact hjt)
              simp only [List.getElem_map] at dS
              obtain ⟨y, hy⟩ : ∃ y, y = P[j] := ⟨_, rfl⟩
              have hyn : y < n := by rw [hy]; exact HPN.out _ (List.getElem_mem hjt)
              rw [← hy] at dS
              have hjI : (j : Int) < (P.length : Int) := by omega
              have HJT := Lib.hid hjt
              have hjb : j < 50000 := by omega
              clear hy
              go_wp2_with fail
              refine (body1_any _ _ _ _ _ _ _ _ _ _ _ seen2 L2 v2 y w _ HTW.out hM HI.out.len hyn HI.out.cnt).mono ?_
              rintro e W4 ⟨⟨u, rfl⟩, seen', L', v', hM', hR⟩
              have HI2 : Hid (BI n i seen' L') := HI.out.visit hyn hR
              have HLT2 : Hid (i < L'.length) := by
                obtain ⟨t, ht⟩ := hR.pre
                show _ < _
                rw [ht, List.length_append]
                have := HLT.out
                omega
              clear hM HI hR dS hbS HLT
              go_wp2_with fail
              go_roundw
              case rel => exact ⟨j + 1, _, _, _, HJT.out, by go_num, hM', HI2, HLT2⟩
              case measure => have := HJT.out; simp only [intOf]; omega
            · obtain rfl : j = P.length := by omega
              have HI2 : Hid (BI n (i + 1) seen2 L2) := ⟨HI.out.len, HI.out.cnt, HI.out.rng, HLT.out⟩
              have HM2 : Hid (i < n) := by show _ < _; have := HI.out.le; have := HLT.out; omega
              clear hjt hj HI HLT
              go_wp2_with fail
              go_roundw
              case rel => exact ⟨i + 1, _, _, _, by go_num, hM, HI2⟩
              case measure => have := HM2.out; simp only [intOf]; omega
        · obtain rfl : i = L.length := by have := HI.out.il; omega
          subst hv3
          have r0 := hM.vis.bv.cell 0 rfl
          have rl := hM.vis.bv.lt
          have HL := Lib.hid HI.out.len
          have hov := hM.vis.ov
          rw [HI.out.len] at hov r0
          have hbel := hM.bel
          clear hM HI hlt hs3 hc3 HIL
          go_wp2_with fail
          obtain ⟨wo2, rfl⟩ : ∃ wo2 : World, wo2 = wr := ⟨_, rfl⟩
          go_loopw [15, 61] (fun v15 v61 wr => ∃ (j : Nat) (l : List Int), j ≤ n ∧ v61 = .int .i64 j ∧ l.length ≤ j ∧ Own cellsInt 1 w.heap.size 3 wr v15 l ∧ Own (fun x : Bool => [Value.bool x]) 1 w.heap.size 4 wr (.slice (some ⟨w.heap.size + 1, 0, none⟩) n n) seen ∧ Below w.heap.size w wr) (fun _ v61 _ => n - (intOf v61).toNat)
          case atStart => exact ⟨0, [], Nat.zero_le _, rfl, Nat.zero_le _, Own.nil, hov, hbel⟩
          case round =>
            clear hov hbel r0 rl q0 ql
            obtain ⟨j, l, hj, rfl, hll, hown, hov, hbel⟩ := hrel
            by_cases hjt : j < n
            · have hjs : j < seen.length := by rw [HL.out]; exact hjt
              have d0 := hov.at1 HL.out hjs
              have dl := hov.ge1.2
              have hjI : (j : Int) < (n : Int) := by omega
              have hjb : j < 10000 := by omega
              have HJT := Lib.hid hjt
              cases hsj : seen[j] with
              | true =>
                rw [hsj] at d0
                clear hsj
                go_upto_region 23 with fail
                have hb1 := bw_alloc (o := .cells #[.int .i64 (j : Nat)] 3) (Below.refl wr.heap.size wr)
                have hsz := hbel.size
                obtain ⟨v', w', hrun, hown', hbl', hg', hz'⟩ := run_push (P := Try.prog) intTy cellsInt_ok 38 (hown.mono hb1) (j : Int) wr.heap.size 1 (cells_one_new _ _ _) (by unfold maxLen; omega) (by omega) (by simp; omega)
                have hov' := (hov.mono hb1).kept_other (hown.mono hb1) (by decide) hg'
                have hbel' := (hbel.trans (hb1.mono hsz)).trans hbl'
                clear hg' hown hov hbel hbl'
                go_wp2_with (at_builtin; refine wpList_appendRun rfl (.tmp 67) (.tmp 69) 38 rfl rfl rfl hrun ?_)
                go_roundw
                case rel => exact ⟨j + 1, _, HJT.out, by go_num, by rw [List.length_append]; simp; omega, hown', hov', hbel'⟩
                case measure => have := HJT.out; simp only [intOf]; omega
              | false =>
                rw [hsj] at d0
                clear hsj
                go_wp2_with fail
                go_roundw
                case rel => exact ⟨j + 1, _, HJT.out, by go_num, by omega, hown, hov, hbel⟩
                case measure => have := HJT.out; simp only [intOf]; omega
            · obtain rfl : j = n := by omega
              clear hjt
              obtain ⟨A9, m9, c9, rfl⟩ := hown.isSl
              go_wp2_with fail
              go_ret
              exact ⟨⟨_, _, _, rfl⟩, hbel⟩
end Go.Proofs.Ythlpndgfphjlkaa
