/-
  Chapter 13: methodWords, instrWords and the closure that writes a line.
-/
import Derived.Lib.OthersKept
import Derived.Test.YticpeombillmeaaGreatDoorJIv
namespace Go.Proofs.YticpeombillmeaaGreatDoor
open Go.RowKit
set_option linter.unusedVariables false

theorem Box.own {w : World} {b base : Nat} {l : List ByteArray} {t : TypeId} (h : Box w b (l.map Value.string) t) (hb : base ≤ b) (hm : l.length ≤ maxLen) : Own cellsStr 1 base t w (.slice (some ⟨b, 0, none⟩) l.length l.length) l := by
  have hf : l.flatMap cellsStr = l.map Value.string := flatMap_one (c := Value.string) l
  refine ⟨by rw [hf]; simp, .inr ⟨b, l.length, (l.map Value.string).toArray, rfl, hb, h, Nat.le_refl _, hm, by simp, ?_⟩⟩
  rw [hf]
  exact List.take_of_length_le (by simp)
/-- A slice of strings that a call has made. -/
def RetS (ws : List ByteArray) (w' : World) (e : Ending) : Prop := ∃ g o c, e = .returned (.slice (some ⟨g, o, none⟩) ws.length c) ∧ ws.length ≤ c ∧ Sl Lay.str w' (some ⟨g, o, none⟩) ws
theorem RetS.of_own {base : Nat} {w : World} {v : Value} {l : List ByteArray} (h : Own cellsStr 1 base 9 w v l) (h0 : 0 < l.length) : RetS l w (.returned v) := by
  obtain ⟨A, c, rfl, hc, hs⟩ := Own.sl (L := Lay.str) h rfl fun _ => rfl
  obtain ⟨b, o, rfl, _⟩ := hs.str_at h0
  exact ⟨b, o, c, rfl, hc, hs⟩

/-! ### A line -/
/-- Builder bb holds l. -/
structure TxB (w0 : World) (bb : Nat) (l : List UInt8) (W : World) : Prop where
  bd : BldL bb l W
  le : w0.heap.size ≤ bb
  bw : Below w0.heap.size w0 W
theorem TxB.mono {w0 W W' : World} {bb : Nat} {l : List UInt8} (h : TxB w0 bb l W) (hb : Below W.heap.size W W') : TxB w0 bb l W' := ⟨h.bd.mono hb, h.le, below_step h.bw hb⟩
set_option maxHeartbeats 1000000 in
theorem line13 {w0 : World} {bb : Nat} {l : List UInt8} (ws : List ByteArray) (g o c : Nat) (W : World) (hT : TxB w0 bb l W) (hs : Sl Lay.str W (some ⟨g, o, none⟩) ws) (hw : WdsOk ws) (hc : ws.length ≤ c) (hl : l.length ≤ 1000000000000) :
    Calls Tryz.prog 16 #[.slice (some ⟨g, o, none⟩) ws.length c, .pointer (some ⟨bb, 0, none⟩)] W fun e w' => e = .returned (.tuple #[]) ∧ TxB w0 bb (l ++ lnT ws) w' ∧ Keeps W w' := by
  have hz := hw.line
  have hz' : (Lib.join (ws.map toL) [32]).length + 1 ≤ 600 := by unfold lnT lineT at hz; simpa using hz
  have h0 := hw.pos
  have h1 := hw.len
  have HJ : Hid (∀ W', Below W.heap.size W W' → Calls Tryz.prog 18 #[.slice (some ⟨g, o, none⟩) ws.length c, .string ⟨#[32]⟩] W' fun e w' => e = .returned (.string (bsOf (Lib.join (ws.map toL) [32]))) ∧ Below W'.heap.size W' w') := fun W' h =>
    joinS (w := W') c ws ⟨#[32]⟩ (hs.mono h) h0 hc (by omega) (by show (Lib.join (ws.map toL) [32]).length ≤ _; omega)
  have HQ : Hid (lnT ws = toL (bsOf (Lib.join (ws.map toL) [32])) ++ [10]) := rfl
  have hsz : (bsOf (Lib.join (ws.map toL) [32])).size ≤ 1000 := by rw [bsOf_size]; omega
  generalize bsOf (Lib.join (ws.map toL) [32]) = J at *
  rw [HQ.out]
  generalize ws.length = n at *
  clear hz hz' HQ hs h0 h1 hw
  have hB10 := fun (l' : List UInt8) (W' : World) (h : BldL bb l' W') (hl' : l'.length + 1 ≤ 140737488355328) => wrB 10 h hl'
  go_enter Tryz.func16, Tryz.ntmps16
  go_wp2_with fail
  refine (HJ.out _ (Below.refl _ _)).mono ?_
  rintro e w1 ⟨rfl, hb1⟩
  have hT1 := hT.mono hb1
  go_wp2_with fail
  refine (wrK J hT1.bd (by omega)).mono ?_
  rintro e w2 ⟨rfl, hd2, hb2, hk2⟩
  go_wp2_with fail
  refine (hB10 _ _ hd2 (by rw [List.length_append, toL_len]; omega)).mono ?_
  rintro e w3 ⟨rfl, hd3, hb3, hk3⟩
  rw [List.append_assoc] at hd3
  have hk23 := hk2.trans hk3
  have hb23 : Below w0.heap.size w1 w3 := (hb2.mono hT.le).trans (hb3.mono hT.le)
  go_wp2_with fail
  go_end0
  exact ⟨rfl, ⟨hd3, hT.le, hT1.bw.trans hb23⟩, (Keeps.below hb1).trans hk23⟩

/-! ### methodWords -/
set_option maxRecDepth 100000 in
set_option maxHeartbeats 1000000 in
theorem mthWords_any (m : Sg) (A : Option Addr) (c : Nat) (w : World) (hs : Sl Lay.str w A m.params) (hl : m.params.length ≤ 1000) :
    Calls Tryz.prog 20 #[.agg #[.string m.name, .bool m.static, .slice A m.params.length c, .string m.result]] w fun e w' => RetS (mthW m) w' e ∧ Below w.heap.size w w' := by
  obtain ⟨R, HR⟩ : ∃ R, Hid (R = mthW m) := ⟨_, Lib.hid rfl⟩
  rw [← HR.out]
  have HR2 : Hid (R = [bsOf wMethod, m.name, bsOf (if m.static then wStat else wVirt), if m.result.toList.isEmpty then bsOf [45] else m.result] ++ m.params) := HR
  have hre : ((m.result.toList == ([] : List UInt8)) = true ∧ m.result.toList.isEmpty = true) ∨ ((m.result.toList == ([] : List UInt8)) = false ∧ m.result.toList.isEmpty = false) := by cases m.result.toList <;> simp
  go_enter Tryz.func20, Tryz.ntmps20
  go_upto_region 2 with fail
  generalize hW : World.alloc _ _ = W1 at *
  have hb1 : Below w.heap.size w W1 := by rw [← hW]; exact (by repeat (first | assumption | exact Below.refl _ _ | apply bw_alloc | apply bw_drew | apply bw_drewN | apply bw_later | apply bw_step))
  have bm : Box W1 w.heap.size [.string m.name, .bool m.static, .slice A m.params.length c, .string m.result] 68 := by rw [← hW]; exact (by repeat (first | (refine Box.at ?_; (simp; done)) | apply Box.drew | apply Box.alloc | assumption))
  have bl : Box W1 (w.heap.size + 1) ([bsOf wMethod, m.name, bsOf wVirt, bsOf [45]].map Value.string) 9 := by rw [← hW]; exact (by repeat (first | (refine Box.at ?_; (simp; done)) | apply Box.drew | apply Box.alloc | assumption))
  clear hW
  have m1 := bm.cell 1 rfl
  have m2 := bm.cell 2 rfl
  have m3 := bm.cell 3 rfl
  have ml := bm.lt
  have ll := bl.lt
  have l2 := bl.cell 2 rfl
  have l3 := bl.cell 3 rfl
  have lf := fun i => bl.free i
  cases hst : m.static with
  | true =>
    rw [hst] at m1
    rcases hre with ⟨he1, he2⟩ | ⟨he1, he2⟩
    · have HB : Hid (R = [bsOf wMethod, m.name, bsOf wStat, bsOf [45]] ++ m.params) := by show R = _; rw [HR2.out, hst, he2]; rfl
      have he3 : (m.result.toList != ([] : List UInt8)) = false := by rw [bne, he1]; rfl
      go_upto_region 6 with fail
      have bl1 := bl.set 2 (.string ⟨#[115, 116, 97, 116, 105, 99]⟩)
      have bm1 := bm.grown (grown_set W1 (w.heap.size + 1) 2 (.string ⟨#[115, 116, 97, 116, 105, 99]⟩)) (by simp)
      have hb2 := hb1.grown (grown_set W1 (w.heap.size + 1) 2 (.string ⟨#[115, 116, 97, 116, 105, 99]⟩)) hb1.size (fun k hk => by injection hk with hk; omega)
      generalize World.setCell _ _ _ = W2 at *
      have bz : Box W2 (w.heap.size + 1) ([bsOf wMethod, m.name, bsOf wStat, bsOf [45]].map Value.string) 9 := bl1
      obtain ⟨v7, W7, hrun, ho7, hb7, hg7, hz7⟩ := run_pushAll (L := Lay.str) (A := A) (c := c) stringsTy cellsStr_ok 54 (bz.own (base := w.heap.size) (by omega) (by simp [maxLen])) (fun x vs h => h) rfl (hs.mono hb2) (by simp [maxLen]; omega) (by simp; omega) hb2.size
      have c2 := bm1.cell 2 rfl
      have cl := bm1.lt
      clear m1 m2 m3 ml ll lf l2 l3
      go_wp2_with (at_builtin; refine wpList_appendRun rfl (.tmp 18) (.tmp 20) 54 rfl rfl rfl hrun ?_)
      go_ret
      exact ⟨by rw [HB.out]; exact RetS.of_own ho7 (by simp), hb2.trans hb7⟩
    · have HB : Hid (R = [bsOf wMethod, m.name, bsOf wStat, m.result] ++ m.params) := by show R = _; rw [HR2.out, hst, he2]; rfl
      have he3 : (m.result.toList != ([] : List UInt8)) = true := by rw [bne, he1]; rfl
      go_upto_region 6 with fail
      have bl1 := bl.set 2 (.string ⟨#[115, 116, 97, 116, 105, 99]⟩)
      have bm1 := bm.grown (grown_set W1 (w.heap.size + 1) 2 (.string ⟨#[115, 116, 97, 116, 105, 99]⟩)) (by simp)
      have hb2 := hb1.grown (grown_set W1 (w.heap.size + 1) 2 (.string ⟨#[115, 116, 97, 116, 105, 99]⟩)) hb1.size (fun k hk => by injection hk with hk; omega)
      have bl2 := bl1.set 3 (.string m.result)
      have bm2 := bm1.grown (grown_set (W1.setCell ⟨w.heap.size + 1, 2, none⟩ (.string ⟨#[115, 116, 97, 116, 105, 99]⟩)) (w.heap.size + 1) 3 (.string m.result)) (by simp)
      have hb3 := hb2.grown (grown_set (W1.setCell ⟨w.heap.size + 1, 2, none⟩ (.string ⟨#[115, 116, 97, 116, 105, 99]⟩)) (w.heap.size + 1) 3 (.string m.result)) hb2.size (fun k hk => by injection hk with hk; omega)
      clear bl1 bm1 hb2
      generalize World.setCell (World.setCell _ _ _) _ _ = W2 at *
      have bz : Box W2 (w.heap.size + 1) ([bsOf wMethod, m.name, bsOf wStat, m.result].map Value.string) 9 := bl2
      obtain ⟨v7, W7, hrun, ho7, hb7, hg7, hz7⟩ := run_pushAll (L := Lay.str) (A := A) (c := c) stringsTy cellsStr_ok 54 (bz.own (base := w.heap.size) (by omega) (by simp [maxLen])) (fun x vs h => h) rfl (hs.mono hb3) (by simp [maxLen]; omega) (by simp; omega) hb3.size
      have c2 := bm2.cell 2 rfl
      have cl := bm2.lt
      clear m1 m2 m3 ml ll lf l2 l3
      go_wp2_with (at_builtin; refine wpList_appendRun rfl (.tmp 18) (.tmp 20) 54 rfl rfl rfl hrun ?_)
      go_ret
      exact ⟨by rw [HB.out]; exact RetS.of_own ho7 (by simp), hb3.trans hb7⟩
  | false =>
    rw [hst] at m1
    rcases hre with ⟨he1, he2⟩ | ⟨he1, he2⟩
    · have HB : Hid (R = [bsOf wMethod, m.name, bsOf wVirt, bsOf [45]] ++ m.params) := by show R = _; rw [HR2.out, hst, he2]; rfl
      have he3 : (m.result.toList != ([] : List UInt8)) = false := by rw [bne, he1]; rfl
      go_upto_region 6 with fail
      have bz : Box W1 (w.heap.size + 1) ([bsOf wMethod, m.name, bsOf wVirt, bsOf [45]].map Value.string) 9 := bl
      obtain ⟨v7, W7, hrun, ho7, hb7, hg7, hz7⟩ := run_pushAll (L := Lay.str) (A := A) (c := c) stringsTy cellsStr_ok 54 (bz.own (base := w.heap.size) (by omega) (by simp [maxLen])) (fun x vs h => h) rfl (hs.mono hb1) (by simp [maxLen]; omega) (by simp; omega) hb1.size
      have c2 := bm.cell 2 rfl
      have cl := bm.lt
      clear m1 m2 m3 ml ll lf l2 l3
      go_wp2_with (at_builtin; refine wpList_appendRun rfl (.tmp 18) (.tmp 20) 54 rfl rfl rfl hrun ?_)
      go_ret
      exact ⟨by rw [HB.out]; exact RetS.of_own ho7 (by simp), hb1.trans hb7⟩
    · have HB : Hid (R = [bsOf wMethod, m.name, bsOf wVirt, m.result] ++ m.params) := by show R = _; rw [HR2.out, hst, he2]; rfl
      have he3 : (m.result.toList != ([] : List UInt8)) = true := by rw [bne, he1]; rfl
      go_upto_region 6 with fail
      have bl2 := bl.set 3 (.string m.result)
      have bm2 := bm.grown (grown_set W1 (w.heap.size + 1) 3 (.string m.result)) (by simp)
      have hb3 := hb1.grown (grown_set W1 (w.heap.size + 1) 3 (.string m.result)) hb1.size (fun k hk => by injection hk with hk; omega)
      generalize World.setCell _ _ _ = W2 at *
      have bz : Box W2 (w.heap.size + 1) ([bsOf wMethod, m.name, bsOf wVirt, m.result].map Value.string) 9 := bl2
      obtain ⟨v7, W7, hrun, ho7, hb7, hg7, hz7⟩ := run_pushAll (L := Lay.str) (A := A) (c := c) stringsTy cellsStr_ok 54 (bz.own (base := w.heap.size) (by omega) (by simp [maxLen])) (fun x vs h => h) rfl (hs.mono hb3) (by simp [maxLen]; omega) (by simp; omega) hb3.size
      have c2 := bm2.cell 2 rfl
      have cl := bm2.lt
      clear m1 m2 m3 ml ll lf l2 l3
      go_wp2_with (at_builtin; refine wpList_appendRun rfl (.tmp 18) (.tmp 20) 54 rfl rfl rfl hrun ?_)
      go_ret
      exact ⟨by rw [HB.out]; exact RetS.of_own ho7 (by simp), hb3.trans hb7⟩

/-! ### instrWords -/
/-- While the words of an instruction are gathered: the instruction's box, the iterator over its form, the words so far. -/
structure InW (w0 : World) (b IT : Nat) (bx : List Value) (F : ByteArray) (p : Nat) (v : Value) (L : List ByteArray) (W : World) : Prop where
  bx : Box W b bx 47
  it : W.heap[IT]? = some (.stringIter F p)
  own : Own cellsStr 1 w0.heap.size 9 W v L
  bel : Below w0.heap.size w0 W
  le : w0.heap.size ≤ IT
theorem InW.mono {w0 W W' : World} {b IT p : Nat} {bx : List Value} {F : ByteArray} {v : Value} {L : List ByteArray} (h : InW w0 b IT bx F p v L W) (hb : Below W.heap.size W W') : InW w0 b IT bx F p v L W' :=
  ⟨h.bx.mono hb, (hb.block IT (Array.getElem?_eq_some_iff.1 h.it).1).trans h.it, h.own.mono hb, below_step h.bel hb, h.le⟩
theorem InW.next {w0 W : World} {b IT p : Nat} {bx : List Value} {F : ByteArray} {v : Value} {L : List ByteArray} (h : InW w0 b IT bx F p v L W) (q : Nat) : InW w0 b IT bx F q v L (W.iterAt IT F q) := by
  refine ⟨?_, Lib.iterAt_heap W IT F p q h.it, ?_, Lib.below_iterAt h.bel h.le F q, h.le⟩
  · have hne : b ≠ IT := fun e => by
      have h1 := h.bx
      unfold Box at h1
      rw [e, h.it] at h1
      cases h1
    exact (Lib.iterAt_other W IT b F q hne).trans h.bx
  · refine ⟨h.own.1, ?_⟩
    rcases h.own.2 with h0 | ⟨g, cap, cur, hv, hb, hg, rest⟩
    · exact .inl h0
    · refine .inr ⟨g, cap, cur, hv, hb, ?_, rest⟩
      rw [Lib.iterAt_other _ _ _ _ _ (fun e => by subst e; rw [h.it] at hg; cases hg)]
      exact hg
theorem own_ne_iter {w : World} {base : Nat} {v : Value} {L : List ByteArray} {k p : Nat} {F : ByteArray} (h : Own cellsStr 1 base 9 w v L) (hk : w.heap[k]? = some (.stringIter F p)) : some k ≠ v.ownBlock := by
  rcases h.2 with ⟨rfl, _⟩ | ⟨g, cap, cur, rfl, hb, hg, rest⟩
  · simp [Value.ownBlock]
  · intro e
    simp only [Value.ownBlock, Option.some.injEq] at e
    subst e
    rw [hk] at hg
    cases hg
theorem InW.push {w0 W : World} {b IT p : Nat} {bx : List Value} {F : ByteArray} {v : Value} {L : List ByteArray} (h : InW w0 b IT bx F p v L W) (hl : L.length ≤ 1000) (s : ByteArray) :
    ∃ v' w', (Builtin.append_ #[54, 54] 54 #[v, .slice (some ⟨W.heap.size, 0, none⟩) 1 1]).run Tryz.prog (W.alloc (.cells #[.string s] 9)) = .ok v' w' ∧ InW w0 b IT bx F p v' (L ++ [s]) w' := by
  have hb1 : Below W.heap.size W (W.alloc (.cells #[.string s] 9)) := bw_alloc (Below.refl _ _)
  have h1 := h.mono hb1
  have hsz := h.bel.size
  obtain ⟨v', w', hrun, ho', hb', hg', hsz'⟩ := run_push stringsTy cellsStr_ok 54 h1.own s W.heap.size 1 (fun j u hj => (Box.new W [.string s] 9).cell j hj) (by unfold maxLen; omega) (by omega) (by simp; omega)
  refine ⟨v', w', hrun, h1.bx.grown hg' (h1.own.ne_box h1.bx (by decide)), ?_, ho', h1.bel.trans hb', h.le⟩
  rw [hg'.block IT (Array.getElem?_eq_some_iff.1 h1.it).1 (own_ne_iter h1.own h1.it)]
  exact h1.it
theorem formB_ascii : ∀ k, k < 17 → ∀ c ∈ (formL[k]?).getD [], c = 100 ∨ c = 97 ∨ c = 98 ∨ c = 110 ∨ c = 111 ∨ c = 99 ∨ c = 109 ∨ c = 103 ∨ c = 42 := by decide
theorem formB_len {k : Nat} (hk : k < formsB.length) : formsB[k].size ≤ 5 := by
  have : ∀ z ∈ formsB, z.size ≤ 5 := by decide
  exact this _ (List.getElem_mem hk)
theorem toL_at {s : ByteArray} {i : Nat} (h : i < s.size) : (toL s)[i]? = some s[i] := by
  unfold toL
  rw [List.getElem?_eq_getElem (by rw [Array.length_toList]; exact h)]
  simp [ByteArray.getElem_eq_getElem_data]
theorem take_flat {x : Ins} {F : ByteArray} {p : Nat} (h : p < F.size) : ((toL F).take (p + 1)).flatMap (fieldW x) = ((toL F).take p).flatMap (fieldW x) ++ fieldW x F[p] := by
  have hl : p < (toL F).length := by rw [toL_len]; exact h
  have := toL_at h
  rw [List.getElem?_eq_getElem hl] at this
  injection this with this
  rw [List.take_succ_eq_append_getElem hl, List.flatMap_append, this]
  simp
set_option maxRecDepth 100000 in
set_option maxHeartbeats 4000000 in
theorem insWords_any (x : Ins) (AI : Option Addr) (cI : Nat) (w : World) (hg : Gl3 w) (hs : Sl Lay.int w AI x.args) (hla : x.args.length ≤ 6) (hI : InsI x) (h0 : 0 ≤ x.op) (h17 : x.op < 17) (h4 : x.op = 4 → 1 ≤ x.n ∧ x.n ≤ 5) :
    Calls Tryz.prog 21 #[.agg #[.int .i64 x.op, .int .i64 x.dst, .int .i64 x.a, .int .i64 x.b, .int .i64 x.n, .string x.cls, .string x.name, .slice AI x.args.length cI, .int .i64 x.jmp, .int .i64 x.hnd]] w fun e w' => RetS (insW x) w' e ∧ Below w.heap.size w w' := by
  obtain ⟨R, HR⟩ : ∃ R, Hid (R = insW x) := ⟨_, Lib.hid rfl⟩
  rw [← HR.out]
  obtain ⟨k, hk, hk17⟩ : ∃ k : Nat, x.op = k ∧ k < 17 := ⟨x.op.toNat, by omega, by omega⟩
  have hkn : k < namesB.length := hk17
  have hkf : k < formsB.length := hk17
  have hk17I : (k : Int) < 17 := by omega
  have HR2 : Hid (R = [bsOf (dg x.hnd), namesB[k]] ++ (toL formsB[k]).flatMap (fieldW x)) := by
    show R = _
    rw [HR.out]; unfold insW
    have hff : formOf x.op = toL formsB[k] := by rw [hk]; exact form_at hkf
    rw [hff, hk, Int.toNat_natCast, List.getElem?_eq_getElem hkn]; rfl
  have HFA : Hid (∀ (p : Nat) (h : p < formsB[k].size), formsB[k][p] = 100 ∨ formsB[k][p] = 97 ∨ formsB[k][p] = 98 ∨ formsB[k][p] = 110 ∨ (formsB[k][p] = 111 ∧ k = 4) ∨ formsB[k][p] = 99 ∨ formsB[k][p] = 109 ∨ formsB[k][p] = 103 ∨ formsB[k][p] = 42) := fun p h => by
    have h1 := toL_at h
    have h2 : toL formsB[k] = (formL[k]?).getD [] := by
      have h3 : k < formL.length := hk17
      rw [List.getElem?_eq_getElem h3]
      simp [formsB, toL]
    have h4 : ∀ k, k < 17 → k ≠ 4 → (111 : UInt8) ∉ (formL[k]?).getD [] := by decide
    rw [h2] at h1
    have h5 := List.mem_of_getElem? h1
    rcases formB_ascii k hk17 _ h5 with e | e | e | e | e | e | e | e | e
    · exact Or.inl e
    · exact Or.inr (Or.inl e)
    · exact Or.inr (Or.inr (Or.inl e))
    · exact Or.inr (Or.inr (Or.inr (Or.inl e)))
    · refine Or.inr (Or.inr (Or.inr (Or.inr (Or.inl ⟨e, ?_⟩))))
      rcases Classical.em (k = 4) with h6 | h6
      · exact h6
      · rw [e] at h5; exact absurd h5 (h4 k hk17 h6)
    · exact Or.inr (Or.inr (Or.inr (Or.inr (Or.inr (Or.inl e)))))
    · exact Or.inr (Or.inr (Or.inr (Or.inr (Or.inr (Or.inr (Or.inl e))))))
    · exact Or.inr (Or.inr (Or.inr (Or.inr (Or.inr (Or.inr (Or.inr (Or.inl e)))))))
    · exact Or.inr (Or.inr (Or.inr (Or.inr (Or.inr (Or.inr (Or.inr (Or.inr e)))))))
  have nk := hg.nx k hkn
  have fk := hg.fx k hkf
  have gln := cell_lt nk
  have glf := cell_lt fk
  have HI := Lib.hid hI
  have H4 : Hid (k = 4 → 1 ≤ x.n ∧ x.n ≤ 5) := fun h => h4 (by rw [hk, h]; rfl)
  have HIT1 := Lib.hid (fun W h => itoa_any x.hnd W hI.2.2.2.2.2.1 (hg.mono h))
  have hFl := formB_len hkf
  generalize bsOf (dg x.hnd) = D0 at *
  generalize namesB[k] = NM at *
  generalize formsB[k] = F at *
  rw [hk]
  clear hk HR h0 h17 h4 hI
  go_enter Tryz.func21, Tryz.ntmps21
  go_upto_region 1 with fail
  generalize hW : World.alloc _ _ = W1 at *
  have hb1 : Below w.heap.size w W1 := by rw [← hW]; exact (by repeat (first | assumption | exact Below.refl _ _ | apply bw_alloc | apply bw_drew | apply bw_drewN | apply bw_later | apply bw_step))
  have bx : Box W1 w.heap.size [.int .i64 k, .int .i64 x.dst, .int .i64 x.a, .int .i64 x.b, .int .i64 x.n, .string x.cls, .string x.name, .slice AI x.args.length cI, .int .i64 x.jmp, .int .i64 x.hnd] 47 := by rw [← hW]; exact (by repeat (first | (refine Box.at ?_; (simp; done)) | apply Box.drew | apply Box.alloc | assumption))
  clear hW
  have p0 := bx.cell 0 rfl
  have p9 := bx.cell 9 rfl
  have pl := bx.lt
  have nk1 := keptC nk gln hb1
  have gln1 := Nat.lt_of_lt_of_le gln hb1.size
  go_cut [3] (fun v wx => ∃ g, v = .slice (some ⟨g, 0, none⟩) 2 2 ∧ Box wx g ([D0, NM].map Value.string) 9 ∧ w.heap.size ≤ g ∧ Below W1.heap.size W1 wx)
  case first =>
    have hdr : Below w.heap.size w W1.drew := bw_drew hb1
    refine wp_region_RW 8 (by kernel_rfl) (by kernel_rfl) ?_
    refine RW.chunk (f := 2) [0, 1, 3, 4, 5, 6] (by kernel_rfl) ?_
    ((simp only [pickOps, List.filterMap, List.getElem?_toArray, List.getElem?_cons_zero, List.getElem?_cons_succ]); (repeat (go_big_quiet_step (fail))); refine wpQuiet_nil ?_)
    refine RW.single 2 rfl (by kernel_rfl) (by omega) ?_
    intro K2 hK2
    go_wp2_with fail
    refine (HIT1.out _ hdr).mono ?_
    rintro e w3 ⟨rfl, hb3⟩
    go_wp2_with fail
    refine hK2 _ _ hb3 ?_
    clear hK2
    have hb3' : Below W1.heap.size W1 w3 := below_step (by exact (by repeat (first | assumption | exact Below.refl _ _ | apply bw_alloc | apply bw_drew | apply bw_drewN | apply bw_later | apply bw_step))) hb3
    refine RW.single 7 rfl (by kernel_rfl) (by omega) ?_
    intro K2 hK2
    go_wp2_with fail
    refine hK2 _ _ (bw_alloc (Below.refl _ _)) ?_
    clear hK2
    (refine RW.tail (by kernel_rfl) ?_; (simp only [List.drop_succ_cons, List.drop_zero]))
    go_wp2_with fail
    go_meet
    exact ⟨_, rfl, Box.new w3 ([D0, NM].map Value.string) 9, Nat.le_trans hb1.size hb3'.size, bw_alloc hb3'⟩
  case rest =>
  obtain ⟨g, rfl, hbg, hgw, hb2⟩ := hcut
  clear p0 p9 pl nk1 gln1 HIT1
  have bx2 := bx.mono hb2
  have hbw2 := below_step hb1 hb2
  have ho2 := hbg.own (base := w.heap.size) hgw (by simp [maxLen])
  have p0 := bx2.cell 0 rfl
  have pl := bx2.lt
  have fk1 := keptC fk glf hbw2
  have glf1 := Nat.lt_of_lt_of_le glf hbw2.size
  go_upto_region 3 with fail
  generalize hW : World.iter _ _ _ = W3 at *
  obtain ⟨T, HT⟩ : ∃ T : Nat → List ByteArray, Hid (T = fun p => [D0, NM] ++ ((toL F).take p).flatMap (fieldW x)) := ⟨_, Lib.hid rfl⟩
  have HT0 : Hid (T 0 = [D0, NM]) := by show _ = _; rw [HT.out]; simp
  have HTN : Hid (∀ p (h : p < F.size), T (p + 1) = T p ++ fieldW x F[p]) := by
    intro p h
    rw [HT.out]
    show _ ++ _ = _ ++ _ ++ _
    rw [take_flat h, List.append_assoc]
  have HTE : Hid (T F.size = R) := by
    show _ = _
    rw [HT.out, HR2.out]
    show _ ++ _ = _
    rw [← toL_len F, List.take_length]
  have HTL : Hid (∀ p, (T p).length ≤ 100 ∧ 0 < (T p).length) := by
    intro p
    rw [HT.out]
    have h1 := flat_count (fieldW x) (fieldW_len hla) ((toL F).take p)
    have h2 : ((toL F).take p).countP (fun c => decide (c = 42)) ≤ ((toL F).take p).length := List.countP_le_length
    have h3 : ((toL F).take p).length ≤ 5 := by rw [List.length_take, toL_len]; omega
    show (_ ++ _ : List ByteArray).length ≤ 100 ∧ 0 < (_ ++ _ : List ByteArray).length
    rw [List.length_append]
    simp only [List.length_cons, List.length_nil]
    omega
  clear HT HR2
  have hIN : InW w w.heap.size wc.heap.size [.int .i64 k, .int .i64 x.dst, .int .i64 x.a, .int .i64 x.b, .int .i64 x.n, .string x.cls, .string x.name, .slice AI x.args.length cI, .int .i64 x.jmp, .int .i64 x.hnd] F 0 (.slice (some ⟨g, 0, none⟩) 2 2) (T 0) W3 := by
    have hk3 : Below wc.heap.size wc W3 := by rw [← hW]; exact bw_alloc (Below.refl _ _)
    rw [HT0.out]
    exact ⟨bx2.mono hk3, by rw [← hW]; exact World.iter_heap _ _ _, ho2.mono hk3, below_step hbw2 hk3, hbw2.size⟩
  generalize wc.heap.size = IT at *
  clear hW hbg hgw hb2 bx bx2 hb1 hbw2 ho2 p0 pl fk1 glf1 nk fk gln glf
  go_loopw [3] (fun v wr => ∃ p : Nat, p ≤ F.size ∧ InW w w.heap.size IT [.int .i64 k, .int .i64 x.dst, .int .i64 x.a, .int .i64 x.b, .int .i64 x.n, .string x.cls, .string x.name, .slice AI x.args.length cI, .int .i64 x.jmp, .int .i64 x.hnd] F p v (T p) wr) (fun _ wr => F.size - wr.iterPos IT)
  case atStart => exact ⟨0, Nat.zero_le _, hIN⟩
  case round =>
    clear hIN
    obtain ⟨p, hp, hN⟩ := hrel
    have hmu : wr.iterPos IT = p := by simp [World.iterPos, hN.it]
    by_cases hlt : p < F.size
    · have HC := HFA.out p hlt
      have h128 : (F[p]'hlt).toNat < 128 := by rcases HC with e | e | e | e | ⟨e, _⟩ | e | e | e | e <;> rw [e] <;> decide
      have hnext : ∀ ty, (Instr.next (.pointer (some ⟨IT, 0, none⟩)) true ty).run Tryz.prog wr = _ := fun ty => Lib.run_next_ascii_at wr IT F p ty hN.it hlt h128
      have HN1 := Lib.hid (HTN.out p hlt)
      have hN1 := hN.next (p + 1)
      generalize wr.iterAt IT F (p + 1) = W1 at hnext hN1
      generalize F[p] = ch at *
      have hlp := HTL.out p
      have hbw := hN1.bel
      have pl := hN1.bx.lt
      clear hN h128
      rcases HC with rfl | rfl | rfl | rfl | ⟨rfl, hk4⟩ | rfl | rfl | rfl | rfl
      · have HF : Hid (T (p + 1) = T p ++ [bsOf (dg x.dst)]) := HN1
        have px := hN1.bx.cell 1 rfl
        have HIT := Lib.hid (fun W h => itoa_any x.dst W HI.out.1 (hg.mono h))
        generalize bsOf (dg x.dst) = D at *
        go_wp2_with fail
        refine (HIT.out _ hbw).mono ?_
        rintro e W2 ⟨rfl, hb2⟩
        have hN2 := hN1.mono hb2
        obtain ⟨v', w', hrun, hN3⟩ := hN2.push (by omega) D
        rw [← HF.out] at hN3
        clear HF HN1 px HIT hN2 hN1 hbw hb2
        go_wp2_with (at_builtin; refine wpList_appendRun rfl (.tmp 27) (.tmp 31) 54 rfl rfl rfl hrun ?_)
        go_roundw
        case rel => exact ⟨p + 1, by omega, hN3⟩
        case measure =>
          have hm2 := hN3.it
          have hmu2 : World.iterPos w' IT = p + 1 := by simp [World.iterPos, hm2]
          rw [hmu, hmu2]; omega
      · have HF : Hid (T (p + 1) = T p ++ [bsOf (dg x.a)]) := HN1
        have px := hN1.bx.cell 2 rfl
        have HIT := Lib.hid (fun W h => itoa_any x.a W HI.out.2.1 (hg.mono h))
        generalize bsOf (dg x.a) = D at *
        go_wp2_with fail
        refine (HIT.out _ hbw).mono ?_
        rintro e W2 ⟨rfl, hb2⟩
        have hN2 := hN1.mono hb2
        obtain ⟨v', w', hrun, hN3⟩ := hN2.push (by omega) D
        rw [← HF.out] at hN3
        clear HF HN1 px HIT hN2 hN1 hbw hb2
        go_wp2_with (at_builtin; refine wpList_appendRun rfl (.tmp 35) (.tmp 39) 54 rfl rfl rfl hrun ?_)
        go_roundw
        case rel => exact ⟨p + 1, by omega, hN3⟩
        case measure =>
          have hm2 := hN3.it
          have hmu2 : World.iterPos w' IT = p + 1 := by simp [World.iterPos, hm2]
          rw [hmu, hmu2]; omega
      · have HF : Hid (T (p + 1) = T p ++ [bsOf (dg x.b)]) := HN1
        have px := hN1.bx.cell 3 rfl
        have HIT := Lib.hid (fun W h => itoa_any x.b W HI.out.2.2.1 (hg.mono h))
        generalize bsOf (dg x.b) = D at *
        go_wp2_with fail
        refine (HIT.out _ hbw).mono ?_
        rintro e W2 ⟨rfl, hb2⟩
        have hN2 := hN1.mono hb2
        obtain ⟨v', w', hrun, hN3⟩ := hN2.push (by omega) D
        rw [← HF.out] at hN3
        clear HF HN1 px HIT hN2 hN1 hbw hb2
        go_wp2_with (at_builtin; refine wpList_appendRun rfl (.tmp 43) (.tmp 47) 54 rfl rfl rfl hrun ?_)
        go_roundw
        case rel => exact ⟨p + 1, by omega, hN3⟩
        case measure =>
          have hm2 := hN3.it
          have hmu2 : World.iterPos w' IT = p + 1 := by simp [World.iterPos, hm2]
          rw [hmu, hmu2]; omega
      · have HF : Hid (T (p + 1) = T p ++ [bsOf (dg x.n)]) := HN1
        have px := hN1.bx.cell 4 rfl
        have HIT := Lib.hid (fun W h => fmtInt_any x.n W HI.out.2.2.2.1 (hg.mono h))
        generalize bsOf (dg x.n) = D at *
        go_wp2_with fail
        refine (HIT.out _ hbw).mono ?_
        rintro e W2 ⟨rfl, hb2⟩
        have hN2 := hN1.mono hb2
        obtain ⟨v', w', hrun, hN3⟩ := hN2.push (by omega) D
        rw [← HF.out] at hN3
        clear HF HN1 px HIT hN2 hN1 hbw hb2
        go_wp2_with (at_builtin; refine wpList_appendRun rfl (.tmp 51) (.tmp 55) 54 rfl rfl rfl hrun ?_)
        go_roundw
        case rel => exact ⟨p + 1, by omega, hN3⟩
        case measure =>
          have hm2 := hN3.it
          have hmu2 : World.iterPos w' IT = p + 1 := by simp [World.iterPos, hm2]
          rw [hmu, hmu2]; omega
      · have hn := H4.out hk4
        clear hk4
        obtain ⟨q, hq, hq5⟩ : ∃ q : Nat, x.n - 1 = q ∧ q < 5 := ⟨(x.n - 1).toNat, by omega, by omega⟩
        have hqo : q < opersB.length := hq5
        have ok := hg.ox q hqo
        have okl := cell_lt ok
        have ok1 := keptC ok okl hbw
        have okl1 := Nat.lt_of_lt_of_le okl hbw.size
        have HF : Hid (T (p + 1) = T p ++ [opersB[q]]) := by
          show _ = _
          rw [HN1.out]
          show _ ++ [(opersB[(x.n - 1).toNat]?).getD ByteArray.empty] = _
          rw [hq, Int.toNat_natCast, List.getElem?_eq_getElem hqo]; rfl
        generalize opersB[q] = OB at *
        have px := hN1.bx.cell 4 rfl
        have hxn : x.n = (q : Int) + 1 := by omega
        rw [hxn] at px
        clear hxn
        have hw1 : (wrap64 ((q : Int) + 1 - 1)) = q := by unfold wrap64; omega
        have hq5I : (q : Int) < 5 := by omega
        clear hq
        obtain ⟨v', w', hrun, hN3⟩ := hN1.push (by omega) OB
        rw [← HF.out] at hN3
        clear HF HN1 hbw ok okl
        go_wp2_with (at_builtin; refine wpList_appendRun rfl (.tmp 59) (.tmp 65) 54 rfl rfl rfl hrun ?_)
        go_roundw
        case rel => exact ⟨p + 1, by omega, hN3⟩
        case measure =>
          have hm2 := hN3.it
          have hmu2 : World.iterPos w' IT = p + 1 := by simp [World.iterPos, hm2]
          rw [hmu, hmu2]; omega
      · have HF : Hid (T (p + 1) = T p ++ [x.cls]) := HN1
        have px := hN1.bx.cell 5 rfl
        obtain ⟨v', w', hrun, hN3⟩ := hN1.push (by omega) x.cls
        rw [← HF.out] at hN3
        clear HF HN1 hbw
        go_wp2_with (at_builtin; refine wpList_appendRun rfl (.tmp 69) (.tmp 72) 54 rfl rfl rfl hrun ?_)
        go_roundw
        case rel => exact ⟨p + 1, by omega, hN3⟩
        case measure =>
          have hm2 := hN3.it
          have hmu2 : World.iterPos w' IT = p + 1 := by simp [World.iterPos, hm2]
          rw [hmu, hmu2]; omega
      · have HF : Hid (T (p + 1) = T p ++ [x.name]) := HN1
        have px := hN1.bx.cell 6 rfl
        obtain ⟨v', w', hrun, hN3⟩ := hN1.push (by omega) x.name
        rw [← HF.out] at hN3
        clear HF HN1 hbw
        go_wp2_with (at_builtin; refine wpList_appendRun rfl (.tmp 76) (.tmp 79) 54 rfl rfl rfl hrun ?_)
        go_roundw
        case rel => exact ⟨p + 1, by omega, hN3⟩
        case measure =>
          have hm2 := hN3.it
          have hmu2 : World.iterPos w' IT = p + 1 := by simp [World.iterPos, hm2]
          rw [hmu, hmu2]; omega
      · have HF : Hid (T (p + 1) = T p ++ [bsOf (dg x.jmp)]) := HN1
        have px := hN1.bx.cell 8 rfl
        have HIT := Lib.hid (fun W h => itoa_any x.jmp W HI.out.2.2.2.2.1 (hg.mono h))
        generalize bsOf (dg x.jmp) = D at *
        go_wp2_with fail
        refine (HIT.out _ hbw).mono ?_
        rintro e W2 ⟨rfl, hb2⟩
        have hN2 := hN1.mono hb2
        obtain ⟨v', w', hrun, hN3⟩ := hN2.push (by omega) D
        rw [← HF.out] at hN3
        clear HF HN1 px HIT hN2 hN1 hbw hb2
        go_wp2_with (at_builtin; refine wpList_appendRun rfl (.tmp 83) (.tmp 87) 54 rfl rfl rfl hrun ?_)
        go_roundw
        case rel => exact ⟨p + 1, by omega, hN3⟩
        case measure =>
          have hm2 := hN3.it
          have hmu2 : World.iterPos w' IT = p + 1 := by simp [World.iterPos, hm2]
          rw [hmu, hmu2]; omega
      · have HF : Hid (T (p + 1) = T p ++ x.args.map (fun v => bsOf (dg v))) := HN1
        have px := hN1.bx.cell 7 rfl
        go_upto_region 24 with fail
        obtain ⟨wo, hwo⟩ : ∃ wo : World, wo = wr := ⟨_, rfl⟩
        subst hwo
        have hN0 : InW w w.heap.size IT [.int .i64 k, .int .i64 x.dst, .int .i64 x.a, .int .i64 x.b, .int .i64 x.n, .string x.cls, .string x.name, .slice AI x.args.length cI, .int .i64 x.jmp, .int .i64 x.hnd] F (p + 1) u3 (T p ++ (x.args.take 0).map (fun v => bsOf (dg v))) W1 := by
          rw [List.take_zero, List.map_nil, List.append_nil]; exact hN1
        clear hN1 hbw pl px
        go_loopw [3, 94] (fun v i wr => ∃ q : Nat, q ≤ x.args.length ∧ i = .int .i64 q ∧ InW w w.heap.size IT [.int .i64 k, .int .i64 x.dst, .int .i64 x.a, .int .i64 x.b, .int .i64 x.n, .string x.cls, .string x.name, .slice AI x.args.length cI, .int .i64 x.jmp, .int .i64 x.hnd] F (p + 1) v (T p ++ (x.args.take q).map (fun v => bsOf (dg v))) wr) (fun _ i _ => x.args.length - (intOf i).toNat)
        case atStart => exact ⟨0, Nat.zero_le _, rfl, hN0⟩
        case round =>
          clear hN0
          obtain ⟨q, hq, rfl, hN⟩ := hrel
          by_cases hql : q < x.args.length
          · obtain ⟨b, o, rfl, hb, d0⟩ := (hs.mono hN.bel).int_at hql
            have HIT := Lib.hid (fun W h => itoa_any x.args[q] W (HI.out.2.2.2.2.2.2 _ (List.getElem_mem hql)) (hg.mono h))
            have hbw := hN.bel
            have HT2 : Hid ((T p ++ (x.args.take (q + 1)).map (fun v => bsOf (dg v))) = (T p ++ (x.args.take q).map (fun v => bsOf (dg v))) ++ [bsOf (dg x.args[q])]) := by
              show _ = _
              rw [List.take_succ_eq_append_getElem hql, List.map_append, List.append_assoc]; rfl
            have hlq : (T p ++ (x.args.take q).map (fun v => bsOf (dg v))).length ≤ 200 := by
              rw [List.length_append, List.length_map, List.length_take]; omega
            generalize bsOf (dg x.args[q]) = D at *
            generalize (T p ++ (x.args.take q).map (fun v => bsOf (dg v))) = TQ at *
            go_wp2_with fail
            refine (HIT.out _ hbw).mono ?_
            rintro e W2 ⟨rfl, hb2⟩
            have hN2 := hN.mono hb2
            obtain ⟨v', w', hrun, hN3⟩ := hN2.push (by omega) D
            rw [← HT2.out] at hN3
            clear HT2 HIT hN2 hN hbw hb2
            go_wp2_with (at_builtin; refine wpList_appendRun rfl (.tmp 98) (.tmp 101) 54 rfl rfl rfl hrun ?_)
            go_roundw
            case rel => exact ⟨q + 1, by omega, by go_num, hN3⟩
            case measure => simp [intOf]; omega
          · obtain rfl : q = x.args.length := by omega
            rw [List.take_length, ← HF.out] at hN
            go_wp2_with fail
            go_roundw
            case rel => exact ⟨p + 1, by omega, hN⟩
            case measure =>
              have hm2 := hN.it
              have hmu2 : World.iterPos wr IT = p + 1 := by simp [World.iterPos, hm2]
              rw [hmu, hmu2]; omega
    · obtain rfl : p = F.size := by omega
      have hnext : ∀ ty, (Instr.next (.pointer (some ⟨IT, 0, none⟩)) true ty).run Tryz.prog wr = _ := fun ty => Lib.run_next_end_at wr IT F F.size ty hN.it (by omega)
      have hlp := HTL.out F.size
      rw [HTE.out] at hN hlp
      go_wp2_with fail
      go_ret
      exact ⟨RetS.of_own hN.own hlp.2, hN.bel⟩
end Go.Proofs.YticpeombillmeaaGreatDoor
