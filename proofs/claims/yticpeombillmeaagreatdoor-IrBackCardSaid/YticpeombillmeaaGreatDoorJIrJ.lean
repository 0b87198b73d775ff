/-
  Chapter 13: the reader's complete. (Printed by wip/gen/irJ.py.)
-/
import Derived.Test.YticpeombillmeaaGreatDoorJIh
import Derived.Test.YticpeombillmeaaGreatDoorJGa
namespace Go.Proofs.YticpeombillmeaaGreatDoor
open Go.RowKit Go.Deep
set_option linter.unusedVariables false

section
variable {w0 W : World} {rb m : Nat} {r : RdI} {rcs : List RC} {rfs : List RFn} {vC : Value} {g n c : Nat}
/-- A store into a function's own cells. -/
theorem RdAt.setFn (h : RdAt w0 rb r m rcs rfs none none vC (.slice (some ⟨g, 0, none⟩) n c) W) {k : Nat} (hk : k < rfs.length) {j : Nat} {u old : Value} {y : RFn} (hj : j < 7) (hold : (cellsRF rfs[k])[j]? = some old) (hcy : cellsRF y = (cellsRF rfs[k]).set j u) (h2 : y.2 = rfs[k].2) (hv : y.1.vars = rfs[k].1.vars) (hc : y.1.code = rfs[k].1.code) :
    W.cell? ⟨g, k * 7 + j, none⟩ = some old ∧ W.frozen? ⟨g, k * 7 + j, none⟩ = false ∧ g < W.heap.size ∧ RdAt w0 rb ⟨r.cs, (rfs.set k y).map (·.1), r.pl⟩ m rcs (rfs.set k y) none none vC (.slice (some ⟨g, 0, none⟩) n c) (W.setCell ⟨g, k * 7 + j, none⟩ u) := by
  have oF := h.oF
  rw [Option.toList_none, List.append_nil] at oF
  have hn : rfs.length = n := by
    obtain ⟨A, c', e⟩ := oF.sliceOf
    injection e with _ e _
    exact e.symm
  have hg2 := grown_set W g (k * 7 + j) u
  have hr2 : RowTyI W (some g) 43 := oF.rowTyI
  have hgb := oF.ltOf
  have hset := oF.setAt cellsRF_ok hn hk hj u y hcy
  refine ⟨oF.cellOf cellsRF_ok hn hk hold, oF.freeOf hn _, hgb.2, ⟨h.bx.setOther (p := ⟨g, _, none⟩) (fun e => ?_) u, h.rbw, h.oC.keptTyI hr2 (by decide) hg2, by rw [Option.toList_none, List.append_nil]; exact hset, h.eC, by simp, fun z hz => (h.dC z hz).kept hr2 (by decide) (Or.inl ⟨by decide, by decide⟩) hg2, fun z hz => ?_, fun z hz => (by cases hz), fun z hz => (by cases hz), ⟨h.hm.1, Nat.le_trans h.hm.2 hg2.size⟩, h.bw.grown hg2 h.bw.size (fun k hk => by injection hk with hk; rw [← hk]; exact hgb.1)⟩⟩
  · have e : g = rb := e
    obtain ⟨cs, fr, hk⟩ := hr2 g rfl
    have hb := h.bx
    unfold Box at hb
    rw [← e, hk] at hb
    injection hb with hb
    injection hb with _ hb _
    exact absurd hb (by decide)
  · rcases List.mem_or_eq_of_mem_set hz with hz | rfl
    · exact (h.dF z hz).kept hr2 (by decide) (Or.inl ⟨by decide, by decide⟩) hg2
    · have hd := (h.dF _ (List.getElem_mem hk)).kept hr2 (by decide) (Or.inl ⟨by decide, by decide⟩) hg2
      obtain ⟨⟨f1, rs, f2, f3, f4⟩, l1, l2⟩ := hd
      refine ⟨⟨?_, rs, ?_, ?_, f4⟩, ?_, ?_⟩
      · rw [h2, hv]; exact f1
      · rw [h2, hc]; exact f2
      · rw [hc]; exact f3
      · rw [h2, hv]; exact l1
      · rw [h2, hc]; exact l2
end
theorem methodOf_mem {cs : List Cls} {a b : ByteArray} {g : Sg} (h : methodOf cs a b = some g) : ∃ c ∈ cs, g ∈ c.methods := by
  rw [methodOf_pf] at h
  obtain ⟨c, hc, h1⟩ := List.exists_of_findSome?_eq_some h
  unfold pfM at h1
  split at h1
  · exact ⟨c, hc, List.mem_of_find?_eq_some h1⟩
  · cases h1
def cplR (cs : List Cls) (x : RFn) : RFn := (complF cs x.1, x.2)
theorem cpl_at {α : Type} (f : α → α) {l : List α} {k : Nat} (hk : k < l.length) : ((l.take k).map f ++ l.drop k).set k (f l[k]) = (l.take (k + 1)).map f ++ l.drop (k + 1) := by
  have hl : ((l.take k).map f).length = k := by rw [List.length_map, List.length_take]; omega
  rw [List.set_append_right _ _ (by omega), hl, Nat.sub_self, drop_at hk, List.set_cons_zero, List.take_succ_eq_append_getElem hk, List.map_append, List.append_assoc]
  rfl
theorem cpl_get {α : Type} (f : α → α) {l : List α} {k : Nat} (hk : k < l.length) (h : k < ((l.take k).map f ++ l.drop k).length) : ((l.take k).map f ++ l.drop k)[k] = l[k] := by
  have hl : ((l.take k).map f).length = k := by rw [List.length_map, List.length_take]; omega
  rw [List.getElem_append_right (by omega)]
  simp only [hl, Nat.sub_self, List.getElem_drop, Nat.add_zero]
theorem cpl_len {α : Type} (f : α → α) (l : List α) (k : Nat) : ((l.take k).map f ++ l.drop k).length = l.length := by
  rw [List.length_append, List.length_map, List.length_take, List.length_drop]; omega
/-- The layouts out of frozen raw rows. -/
theorem slOwn {α : Type} {L : Lay α} {cells : α → List Value} {size base n c : Nat} {e : TypeId} {w : World} {A : Option Addr} {l : List α} (h : Own cells size base e w (.slice A n c) l) (hs : L.size = size) (hL : ∀ x, L.rep w x (cells x)) : l.length ≤ c ∧ Sl L w A l := by
  obtain ⟨A', c', e1, h1, h2⟩ := h.sl hs hL
  injection e1 with e1 e2 e3
  subst e1 e3
  exact ⟨h1, h2⟩
theorem slRaw {α β : Type} {M : Lay β} {g : α → β} {cells : α → List Value} {size base n c : Nat} {e : TypeId} {w : World} {A : Option Addr} {l : List α} (h : Own cells size base e w (.slice A n c) l) (hc : CellsOk cells size) (hs : M.size = size) (hr : ∀ x ∈ l, M.rep w (g x) (cells x)) : n = l.length ∧ l.length ≤ c ∧ Sl M w A (l.map g) := by
  obtain ⟨A', c', e1, h1, h2⟩ := h.slR (M := M) (k := l.map g) hc hs (by simp) (fun i x y hx hy => by
    rw [List.getElem?_map, hx] at hy
    injection hy with hy
    rw [← hy]
    exact hr x (List.mem_of_getElem? hx))
  injection e1 with e1 e2 e3
  subst e1 e3
  rw [List.length_map] at e2 h1
  exact ⟨e2, h1, h2⟩
theorem SgI.rep {w : World} {x : RS} (h : SgI w x) : Lay.sg.rep w x.1 (cellsRS x) := by
  obtain ⟨h1, h2⟩ := slOwn (L := Lay.str) h rfl (fun _ => rfl)
  exact ⟨x.2.1, x.2.2, rfl, h1, h2⟩
theorem InI.rep {w : World} {x : RI} (h : InI w x) : Lay.ins.rep w x.1 (cellsRI x) := by
  obtain ⟨h1, h2⟩ := slOwn (L := Lay.int) h rfl (fun _ => rfl)
  exact ⟨x.2.1, x.2.2, rfl, h1, h2⟩
theorem ClsI.rep {w : World} {lo : Nat} {x : RC} (h : ClsI w lo x) : Lay.cls.rep w x.1 (cellsRC x) := by
  obtain ⟨rs, k1, k2, k3⟩ := h.mths
  obtain ⟨f1, f2⟩ := slOwn (L := Lay.fld) h.flds rfl (fun _ => rfl)
  obtain ⟨-, g1, g2⟩ := slRaw (M := Lay.sg) (g := (·.1)) k1 cellsRS_ok rfl (fun y hy => (k3 y hy).rep)
  rw [k2] at g2
  have e : rs.length = x.1.methods.length := by rw [← k2, List.length_map]
  rw [e] at g1
  exact ⟨x.2.1.1, x.2.1.2, x.2.2.1, x.2.2.2, rfl, f1, f2, g1, g2⟩
theorem FunI.rep {w : World} {lo : Nat} {x : RFn} (h : FunI w lo x) : Lay.fun.rep w x.1 (cellsRF x) := by
  obtain ⟨rs, k1, k2, k3⟩ := h.code
  obtain ⟨f1, f2⟩ := slOwn (L := Lay.fld) h.vars rfl (fun _ => rfl)
  obtain ⟨-, g1, g2⟩ := slRaw (M := Lay.ins) (g := (·.1)) k1 cellsRI_ok rfl (fun y hy => (k3 y hy).rep)
  rw [k2] at g2
  have e : rs.length = x.1.code.length := by rw [← k2, List.length_map]
  rw [e] at g1
  exact ⟨x.2.1.1, x.2.1.2, x.2.2.1, x.2.2.2, rfl, f1, f2, g1, g2⟩
theorem RdAt.slC {w0 W : World} {rb m : Nat} {r : RdI} {rcs : List RC} {rfs : List RFn} {vF : Value} {A : Option Addr} {n c : Nat} (h : RdAt w0 rb r m rcs rfs none none (.slice A n c) vF W) : n = r.cs.length ∧ r.cs.length ≤ c ∧ Sl Lay.cls W A r.cs := by
  have oC := h.oC
  have eC := h.eC
  rw [Option.toList_none, List.append_nil] at oC eC
  obtain ⟨h1, h2, h3⟩ := slRaw (M := Lay.cls) (g := (·.1)) oC cellsRC_ok rfl (fun y hy => (h.dC y hy).is.rep)
  rw [← eC, List.length_map]
  exact ⟨h1, h2, h3⟩
theorem RdAt.slF {w0 W : World} {rb m : Nat} {r : RdI} {rcs : List RC} {rfs : List RFn} {vC : Value} {A : Option Addr} {n c : Nat} (h : RdAt w0 rb r m rcs rfs none none vC (.slice A n c) W) : n = r.fs.length ∧ r.fs.length ≤ c ∧ Sl Lay.fun W A r.fs := by
  have oF := h.oF
  have eF := h.eF
  rw [Option.toList_none, List.append_nil] at oF eF
  obtain ⟨h1, h2, h3⟩ := slRaw (M := Lay.fun) (g := (·.1)) oF cellsRF_ok rfl (fun y hy => (h.dF y hy).is.rep)
  rw [← eF, List.length_map]
  exact ⟨h1, h2, h3⟩
/-- Behind complete: the unit in memory. -/
structure RdV (w0 : World) (rb : Nat) (cs : List Cls) (fs : List Fun) (mn : Int) (pl : Nat) (vC vF : Value) (m : Nat) (rcs : List RC) (rfs : List RFn) (w' : World) : Prop where
  bx : Box w' rb [vC, vF, .int .i64 mn, .int .i64 pl] 74
  oC : Own cellsRC 4 w0.heap.size 64 w' vC rcs
  oF : Own cellsRF 7 w0.heap.size 43 w' vF rfs
  eC : rcs.map (·.1) = cs
  eF : rfs.map (·.1) = fs
  dC : ∀ x ∈ rcs, DoneC w' m x
  dF : ∀ x ∈ rfs, DoneF w' m x
def RdU (w0 : World) (rb : Nat) (cs : List Cls) (fs : List Fun) (mn : Int) (pl : Nat) (w' : World) : Prop := (∃ vC vF m rcs rfs, RdV w0 rb cs fs mn pl vC vF m rcs rfs w') ∧ Below w0.heap.size w0 w'
theorem RdV.sl {w0 w' : World} {rb pl m : Nat} {cs : List Cls} {fs : List Fun} {mn : Int} {vC vF : Value} {rcs : List RC} {rfs : List RFn} (h : RdV w0 rb cs fs mn pl vC vF m rcs rfs w') : ∃ (AC : Option Addr) (cC : Nat) (AF : Option Addr) (cF : Nat), vC = .slice AC cs.length cC ∧ vF = .slice AF fs.length cF ∧ cs.length ≤ cC ∧ Sl Lay.cls w' AC cs ∧ fs.length ≤ cF ∧ Sl Lay.fun w' AF fs := by
  obtain ⟨AC, cC, e1⟩ := h.oC.sliceOf
  obtain ⟨AF, cF, e2⟩ := h.oF.sliceOf
  have oC := h.oC
  have oF := h.oF
  rw [e1] at oC
  rw [e2] at oF
  obtain ⟨-, c1, s1⟩ := slRaw (M := Lay.cls) (g := (·.1)) oC cellsRC_ok rfl (fun y hy => (h.dC y hy).is.rep)
  obtain ⟨-, c2, s2⟩ := slRaw (M := Lay.fun) (g := (·.1)) oF cellsRF_ok rfl (fun y hy => (h.dF y hy).is.rep)
  have l1 : cs.length = rcs.length := by rw [← h.eC, List.length_map]
  have l2 : fs.length = rfs.length := by rw [← h.eF, List.length_map]
  rw [h.eC] at s1
  rw [h.eF] at s2
  exact ⟨AC, cC, AF, cF, by rw [e1, l1], by rw [e2, l2], by omega, s1, by omega, s2⟩
theorem RdV.mono {w0 w' w2 : World} {rb pl m : Nat} {cs : List Cls} {fs : List Fun} {mn : Int} {vC vF : Value} {rcs : List RC} {rfs : List RFn} (h : RdV w0 rb cs fs mn pl vC vF m rcs rfs w') (hb : Below w'.heap.size w' w2) : RdV w0 rb cs fs mn pl vC vF m rcs rfs w2 :=
  ⟨h.bx.mono hb, h.oC.mono hb, h.oF.mono hb, h.eC, h.eF, fun x hx => (h.dC x hx).mono hb, fun x hx => (h.dF x hx).mono hb⟩
/-- A store into the cell of a result. -/
theorem RdV.res {w0 w' w2 : World} {rb pl m b : Nat} {cs : List Cls} {fs : List Fun} {mn : Int} {vC vF : Value} {rcs : List RC} {rfs : List RFn} (h : RdV w0 rb cs fs mn pl vC vF m rcs rfs w') (hr : RowTyI w' (some b) 27) (hne : b ≠ rb) (hg : w'.grownBy w2 (some b)) : RdV w0 rb cs fs mn pl vC vF m rcs rfs w2 :=
  ⟨h.bx.grown hg (fun e => hne (by cases e; rfl)), h.oC.keptTyI hr (by decide) hg, h.oF.keptTyI hr (by decide) hg, h.eC, h.eF, fun x hx => (h.dC x hx).kept hr (by decide) (Or.inl ⟨by decide, by decide⟩) hg, fun x hx => (h.dF x hx).kept hr (by decide) (Or.inl ⟨by decide, by decide⟩) hg⟩
theorem RdAt.final {w0 W : World} {rb m : Nat} {r : RdI} {rcs : List RC} {rfs : List RFn} {AC AF : Option Addr} {nC cC nF cF : Nat} (h : RdAt w0 rb r m rcs rfs none none (.slice AC nC cC) (.slice AF nF cF) W) (mn : Int) : RdU w0 rb r.cs r.fs mn r.pl (W.setCell ⟨rb, 2, none⟩ (.int .i64 mn)) := by
  have hr2 : RowTyI W (some rb) 74 := h.bx.rowTyI
  have hg := grown_set W rb 2 (.int .i64 mn)
  have oC := h.oC.keptTyI hr2 (by decide) hg
  have oF := h.oF.keptTyI hr2 (by decide) hg
  have eC := h.eC
  have eF := h.eF
  rw [Option.toList_none, List.append_nil] at oC oF eC eF
  exact ⟨⟨_, _, m, rcs, rfs, ⟨h.bx.set 2 _, oC, oF, eC, eF, fun y hy => (h.dC y hy).kept hr2 (by decide) (Or.inl ⟨by decide, by decide⟩) hg, fun y hy => (h.dF y hy).kept hr2 (by decide) (Or.inl ⟨by decide, by decide⟩) hg⟩⟩, h.bw.grown hg h.bw.size (fun k hk => by injection hk with hk; rw [← hk]; exact h.rbw)⟩
set_option maxRecDepth 100000 in
set_option maxHeartbeats 4000000 in
theorem complete_any {w0 W : World} {rb m : Nat} {r : RdI} {rcs : List RC} {rfs : List RFn} {vC vF : Value} (hR : RdAt w0 rb r m rcs rfs none none vC vF W) (hB : LenB r) (hP : ∀ c ∈ r.cs, ∀ m ∈ c.methods, m.params.length ≤ 1000000) :
    Calls Tryz.prog 28 #[.pointer (some ⟨rb, 0, none⟩)] W fun e w' => e = .returned (.tuple #[]) ∧ RdU w0 rb r.cs (r.fs.map (complF r.cs)) (findU (r.fs.map (complF r.cs)) (bsOf wMainC) (bsOf wMainM)) r.pl w' := by
  have eC := hR.eC
  have eF := hR.eF
  rw [Option.toList_none, List.append_nil] at eC eF
  have hfl := hR.rfLen hB
  rw [Option.toList_none, List.append_nil] at hfl
  obtain ⟨A, cF, hv⟩ := hR.oF.sliceOf
  replace hv : vF = .slice A rfs.length cF := by rw [hv]; simp
  subst hv
  obtain ⟨AC, cC, hv⟩ := hR.oC.sliceOf
  replace hv : vC = .slice AC rcs.length cC := by rw [hv]; simp
  subst hv
  have HBC := Lib.hid hB.c
  have HPM := Lib.hid hP
  have HBM := Lib.hid (fun c hc => (hB.cf c hc).2)
  go_enter Tryz.func28, Tryz.ntmps28
  have r1 := hR.bx.cell 1 rfl
  have rl := hR.bx.lt
  go_wp2_with fail
  clear r1 rl
  have hst : RdAt w0 rb ⟨r.cs, ((rfs.take 0).map (cplR r.cs) ++ rfs.drop 0).map (·.1), r.pl⟩ m rcs ((rfs.take 0).map (cplR r.cs) ++ rfs.drop 0) none none (.slice AC rcs.length cC) (.slice A rfs.length cF) W := by
    rw [List.take_zero, List.map_nil, List.nil_append, List.drop_zero, eF]
    exact hR
  clear hR
  go_loopw [12] (fun i wr => ∃ k : Nat, k ≤ rfs.length ∧ i = .int .i64 k ∧ RdAt w0 rb ⟨r.cs, ((rfs.take k).map (cplR r.cs) ++ rfs.drop k).map (·.1), r.pl⟩ m rcs ((rfs.take k).map (cplR r.cs) ++ rfs.drop k) none none (.slice AC rcs.length cC) (.slice A rfs.length cF) wr) (fun i _ => rfs.length - (intOf i).toNat)
  case atStart => exact ⟨0, Nat.zero_le _, rfl, hst⟩
  case round =>
    clear hst
    obtain ⟨k, hk, rfl, hA⟩ := hrel
    by_cases hlt : k < rfs.length
    · have hlen := cpl_len (cplR r.cs) rfs k
      have hkl : k < ((rfs.take k).map (cplR r.cs) ++ rfs.drop k).length := by rw [hlen]; exact hlt
      have HGET := Lib.hid (cpl_get (cplR r.cs) hlt hkl)
      have HSET := Lib.hid (cpl_at (cplR r.cs) hlt)
      have hne : 0 < ((rfs.take k).map (cplR r.cs) ++ rfs.drop k).length := by omega
      generalize hL : (rfs.take k).map (cplR r.cs) ++ rfs.drop k = L at *
      have oF := hA.oF
      rw [Option.toList_none, List.append_nil] at oF
      obtain ⟨g, c', hv⟩ := oF.someOf hne
      injection hv with hv1 hv2 hv3
      subst hv1 hv3
      have c0 := oF.cellOf cellsRF_ok hlen hkl (j := 0) (u := .string L[k].1.cls) rfl
      have c1 := oF.cellOf cellsRF_ok hlen hkl (j := 1) (u := .string L[k].1.name) rfl
      have cl := oF.ltOf.2
      have r0 := hA.bx.cell 0 rfl
      have r1 := hA.bx.cell 1 rfl
      have rl := hA.bx.lt
      rw [HGET.out] at c0 c1
      rw [Nat.add_zero] at c0
      have hsl : Sl Lay.cls wr AC r.cs := hA.slC.2.2
      have hrcs : rcs.length = r.cs.length := by rw [← eC, List.length_map]
      have HMO : Hid (∀ W', Below wr.heap.size wr W' → Calls Tryz.prog 57 #[.agg #[.slice AC rcs.length cC], .string rfs[k].1.cls, .string rfs[k].1.name] W' fun e w' => RetMo (methodOf r.cs rfs[k].1.cls rfs[k].1.name) e ∧ Below W'.heap.size W' w') := fun W' h => by
        rw [hrcs]
        exact methodOf_any AC cC r.cs _ _ W' HBC.out HBM.out (hsl.mono h)
      obtain ⟨o, HO⟩ : ∃ o, Hid (o = methodOf r.cs rfs[k].1.cls rfs[k].1.name) := ⟨_, Lib.hid rfl⟩
      rw [← HO.out] at HMO
      obtain ⟨x, HX⟩ : ∃ x, Hid (x = rfs[k]) := ⟨_, Lib.hid rfl⟩
      rw [← HX.out] at HO HMO c0 c1 HGET HSET
      clear hrcs hsl hv2 hL hne
      have hkli : (k : Int) < rfs.length := by omega
      go_upto_region 4 with fail
      go_cut [4, 5] (fun s4 s5 wx => ∃ gs G A c, s4 = .pointer (some ⟨gs, 0, none⟩) ∧ s5 = .bool o.isSome ∧ Box wx gs [.string G.name, .bool G.static, .slice A G.params.length c, .string G.result] 68 ∧ Hid (∀ y, o = some y → y = G) ∧ Below wr.heap.size wr wx)
      case first =>
        refine wp_region_RZ 20 (by kernel_rfl) (by kernel_rfl) ?_
        refine RZ.chunkN (f := 7) [0, 1, 2, 3, 4, 5, 6, 7, 8, 9, 10, 11, 12] (by kernel_rfl) ?_
        ((simp only [pickOps, List.filterMap, List.getElem?_toArray, List.getElem?_cons_zero, List.getElem?_cons_succ]); (repeat (go_big_quiet_step (fail))); refine wpQuiet_nil ?_)
        refine RZ.both 13 17 rfl rfl (by kernel_rfl) (by omega) (by omega) ?_ ?_
        · intro K hK
          go_wp2_with fail
          refine (HMO.out _ (Below.refl _ _).drew).mono ?_
          rintro e w6 ⟨⟨G, AG, cG, rfl, hG⟩, hb6⟩
          have hb6' : Below wr.heap.size wr w6 := below_step (Below.refl _ _).drew hb6
          go_wp2_with fail
          refine hK _ _ hb6 ?_
          clear hK
          refine RZ.chunk (f := 3) [14, 15, 16] (by kernel_rfl) ?_
          ((simp only [pickOps, List.filterMap, List.getElem?_toArray, List.getElem?_cons_zero, List.getElem?_cons_succ]); (repeat (go_big_quiet_step (fail))); refine wpQuiet_nil ?_)
          refine RZ.single 17 rfl (by kernel_rfl) (by omega) ?_
          intro K hK
          go_wp2_with fail
          refine hK _ _ (bw_alloc hb6) ?_
          clear hK
          refine RZ.single 18 rfl (by kernel_rfl) (by omega) ?_
          intro K hK
          go_wp2_with fail
          refine hK _ _ (bw_alloc hb6) ?_
          clear hK
          refine RZ.chunk (f := 0) [19] (by kernel_rfl) ?_
          ((simp only [pickOps, List.filterMap, List.getElem?_toArray, List.getElem?_cons_zero, List.getElem?_cons_succ]); (repeat (go_big_quiet_step (fail))); refine wpQuiet_nil ?_)
          (refine RZ.done (by kernel_rfl) (by kernel_rfl) ?_)
          go_wp2_with fail
          go_meet
          exact ⟨_, G, AG, cG, rfl, rfl, Box.new _ _ _, hG, bw_alloc hb6'⟩
        · intro K hK
          go_wp2_with fail
          refine hK _ _ (bw_alloc (Below.refl _ _)) ?_
          clear hK
          generalize hW : World.drew (World.alloc _ _) = W2
          have hbz : Below wr.drew.heap.size wr.drew W2 := by rw [← hW]; exact bw_alloc (Below.refl _ _)
          have hbz2 : Below wr.heap.size wr W2 := below_step (Below.refl _ _).drew hbz
          have byz : Box W2 wr.heap.size [.string ByteArray.empty, .bool false, .slice none 0 0, .string ByteArray.empty] 68 := by rw [← hW]; exact (Box.new _ _ _).drew
          clear hW
          refine RZ.single 13 rfl (by kernel_rfl) (by omega) ?_
          intro K hK
          go_wp2_with fail
          refine (HMO.out _ hbz2).mono ?_
          rintro e w6 ⟨⟨G, AG, cG, rfl, hG⟩, hb6⟩
          have hb7 := below_step hbz hb6
          have hb7' : Below wr.heap.size wr w6 := below_step hbz2 hb6
          have by6 := byz.mono hb6
          go_wp2_with fail
          refine hK _ _ hb7 ?_
          clear hK
          refine RZ.chunk (f := 2) [14, 15, 16] (by kernel_rfl) ?_
          ((simp only [pickOps, List.filterMap, List.getElem?_toArray, List.getElem?_cons_zero, List.getElem?_cons_succ]); (repeat (go_big_quiet_step (fail))); refine wpQuiet_nil ?_)
          have yl6 := by6.lt
          have yf := fun i => by6.free i
          have y0 := by6.cell 0 rfl
          have y1 := by6.cell 1 rfl
          have y2 := by6.cell 2 rfl
          have y3 := by6.cell 3 rfl
          obtain ⟨by9, hg9⟩ := by6.store4 (.string G.name) (.bool G.static) (.slice AG G.params.length cG) (.string G.result)
          have hb9 := hb7'.grown hg9 hb7'.size (fun k hk => by injection hk with hk; omega)
          have hb9d := hb7.grown hg9 hb7.size (fun k hk => by injection hk with hk; have : wr.drew.heap.size = wr.heap.size := rfl; omega)
          refine RZ.single 18 rfl (by kernel_rfl) (by omega) ?_
          intro K hK
          go_wp2_with fail
          refine hK _ _ hb9d ?_
          clear hK
          refine RZ.chunk (f := 0) [19] (by kernel_rfl) ?_
          ((simp only [pickOps, List.filterMap, List.getElem?_toArray, List.getElem?_cons_zero, List.getElem?_cons_succ]); (repeat (go_big_quiet_step (fail))); refine wpQuiet_nil ?_)
          (refine RZ.done (by kernel_rfl) (by kernel_rfl) ?_)
          go_wp2_with fail
          go_meet
          exact ⟨_, G, AG, cG, rfl, rfl, by9, hG, hb9⟩
      case rest =>
      obtain ⟨gs, G, AG, cG, rfl, rfl, bs, HG, hb⟩ := hcut
      have hA1 := hA.mono hb
      clear hA oF c0 c1 cl r0 r1 rl hb
      generalize wc = W1 at *
      have s1 := bs.cell 1 rfl
      have s2 := bs.cell 2 rfl
      have s3 := bs.cell 3 rfl
      have sl := bs.lt
      cases o with
      | none =>
        have HEQ : Hid (cplR r.cs x = x) := by
          show _ = _
          unfold cplR complF
          rw [← HO.out]
        have HA2 : Hid (RdAt w0 rb ⟨r.cs, ((rfs.take (k + 1)).map (cplR r.cs) ++ rfs.drop (k + 1)).map (·.1), r.pl⟩ m rcs ((rfs.take (k + 1)).map (cplR r.cs) ++ rfs.drop (k + 1)) none none (.slice AC rcs.length cC) (.slice (some ⟨g, 0, none⟩) rfs.length cF) W1) := by
          show RdAt _ _ _ _ _ _ _ _ _ _ _
          rw [← HSET.out, HEQ.out, ← HGET.out, List.set_getElem_self]
          exact hA1
        go_wp2_with fail
        go_roundw
        case rel => exact ⟨k + 1, by omega, by go_num, HA2.out⟩
        case measure => simp [intOf]; omega
      | some G' =>
        obtain rfl : G' = G := HG.out G' rfl
        have HEQ : Hid (cplR r.cs x = ({ x.1 with static := G'.static, nparams := if G'.static then (G'.params.length : Int) else G'.params.length + 1, result := G'.result }, x.2)) := by
          show _ = _
          unfold cplR complF
          rw [← HO.out]
        have hpl : G'.params.length ≤ 1000000 := by
          obtain ⟨c, hc, hm⟩ := methodOf_mem HO.out.symm
          exact HPM.out c hc _ hm
        have bsd := bs.drew
        have hAd := hA1.mono (bw_drew (Below.refl _ _))
        have hgg : g ≠ gs := fun e => by
          have oF := hA1.oF
          rw [Option.toList_none, List.append_nil] at oF
          obtain ⟨cs, fr, h1⟩ := oF.rowTyI g rfl
          have h2 := bs
          unfold Box at h2
          rw [← e, h1] at h2
          injection h2 with h2
          injection h2 with _ h2 _
          exact absurd h2 (by decide)
        clear hA1 bs HMO s1 s2 s3 sl
        go_upto_region 6 with fail
        refine wp_region_RQ (S := fun w' => Box w' gs [.string G'.name, .bool G'.static, .slice AG G'.params.length cG, .string G'.result] 68) 19 (by kernel_rfl) bsd (by kernel_rfl) ?_
        generalize World.drew W1 = wd at *
        obtain ⟨a2, b2, g2, hA2⟩ := hAd.setFn hkl (j := 2) (u := .bool G'.static) (old := .bool x.1.static) (y := ({ x.1 with static := G'.static }, x.2)) (by decide) (by rw [HGET.out]; rfl) (by rw [HGET.out]; rfl) (by rw [HGET.out]) (by rw [HGET.out]) (by rw [HGET.out])
        have hk2 : k < (L.set k ({ x.1 with static := G'.static }, x.2)).length := by rw [List.length_set]; exact hkl
        have hx2 := Lib.hid (show (L.set k (({ x.1 with static := G'.static }, x.2) : RFn))[k] = ({ x.1 with static := G'.static }, x.2) by rw [List.getElem_set_self])
        have hk3 : k < (L.set k (({ x.1 with static := G'.static, nparams := G'.params.length }, x.2) : RFn)).length := by rw [List.length_set]; exact hkl
        have hx3 := Lib.hid (show (L.set k (({ x.1 with static := G'.static, nparams := G'.params.length }, x.2) : RFn))[k] = ({ x.1 with static := G'.static, nparams := G'.params.length }, x.2) by rw [List.getElem_set_self])
        have bA := bsd.setOther (p := ⟨g, k * 7 + 2, none⟩) hgg (.bool G'.static)
        have hsome : Nonempty (Held (fun w' : World => Box w' gs [.string G'.name, .bool G'.static, .slice AG G'.params.length cG, .string G'.result] 68)) := ⟨⟨wd, bsd⟩⟩
        have hh : ∀ x : Held (fun w' : World => Box w' gs [.string G'.name, .bool G'.static, .slice AG G'.params.length cG, .string G'.result] 68), Box x.W gs [.string G'.name, .bool G'.static, .slice AG G'.params.length cG, .string G'.result] 68 := fun x => x.h
        have q1 := fun x => (hh x).cell 1 rfl
        have q2 := fun x => (hh x).cell 2 rfl
        have q3 := fun x => (hh x).cell 3 rfl
        have ql := fun x => (hh x).lt
        clear hh hAd
        refine RQ.chunk (f := 9) [0, 1, 2, 3, 4, 5, 6, 7, 8, 9] (by kernel_rfl) ?_
        ((simp only [pickOps, List.filterMap, List.getElem?_toArray, List.getElem?_cons_zero, List.getElem?_cons_succ]); (repeat (go_big_quiet_step (fail))); refine wpQuiet_nil ?_)
        clear q1 q2 q3 ql
        refine RQ.single 10 rfl (by kernel_rfl) (by omega) ?_
        intro K hK
        go_wp2_with fail
        refine hK _ _ bsd ?_
        clear hK
        refine RQ.single 11 rfl (by kernel_rfl) (by omega) ?_
        intro K hK
        go_wp2_with fail
        refine hK _ _ bsd ?_
        clear hK
        refine RQ.single 12 rfl (by kernel_rfl) (by omega) ?_
        intro K hK
        go_wp2_with fail
        refine hK _ _ bA ?_
        clear hK
        generalize World.setCell _ _ _ = wA at *
        obtain ⟨a3, b3, g3, hA3⟩ := hA2.setFn hk2 (j := 3) (u := .int .i64 G'.params.length) (old := .int .i64 x.1.nparams) (y := ({ x.1 with static := G'.static, nparams := G'.params.length }, x.2)) (by decide) (by rw [hx2.out]; rfl) (by rw [hx2.out]; rfl) (by rw [hx2.out]) (by rw [hx2.out]) (by rw [hx2.out])
        rw [List.set_set] at hA3
        have bB := bA.setOther (p := ⟨g, k * 7 + 3, none⟩) hgg (.int .i64 G'.params.length)
        clear a2 b2 g2 hA2 bsd hsome
        refine RQ.single 13 rfl (by kernel_rfl) (by omega) ?_
        intro K hK
        go_wp2_with fail
        refine hK _ _ bA ?_
        clear hK
        refine RQ.single 14 rfl (by kernel_rfl) (by omega) ?_
        intro K hK
        go_wp2_with fail
        refine hK _ _ bA ?_
        clear hK
        refine RQ.single 15 rfl (by kernel_rfl) (by omega) ?_
        intro K hK
        go_wp2_with fail
        refine hK _ _ bB ?_
        clear hK
        generalize World.setCell _ _ _ = wB at *
        obtain ⟨a5, b5, g5, hA5⟩ := hA3.setFn hk3 (j := 5) (u := .string G'.result) (old := .string x.1.result) (y := ({ x.1 with static := G'.static, nparams := G'.params.length, result := G'.result }, x.2)) (by decide) (by rw [hx3.out]; rfl) (by rw [hx3.out]; rfl) (by rw [hx3.out]) (by rw [hx3.out]) (by rw [hx3.out])
        rw [List.set_set] at hA5
        have bs5 := bB.setOther (p := ⟨g, k * 7 + 5, none⟩) hgg (.string G'.result)
        clear a3 b3 g3 hA3 bA
        refine RQ.single 16 rfl (by kernel_rfl) (by omega) ?_
        intro K hK
        go_wp2_with fail
        refine hK _ _ bB ?_
        clear hK
        refine RQ.single 17 rfl (by kernel_rfl) (by omega) ?_
        intro K hK
        go_wp2_with fail
        refine hK _ _ bB ?_
        clear hK
        refine RQ.single 18 rfl (by kernel_rfl) (by omega) ?_
        intro K hK
        go_wp2_with fail
        refine hK _ _ bs5 ?_
        clear hK
        generalize World.setCell _ _ _ = W5 at *
        clear a5 b5 g5 bB hx2 hx3 hk2 hk3
        (refine RQ.done (by kernel_rfl) (by kernel_rfl) ?_)
        go_upto_region 7 with fail
        have t1 := bs5.cell 1 rfl
        have tl := bs5.lt
        cases hstt : G'.static with
        | true =>
          rw [hstt] at t1 hA5
          have HA6 : Hid (RdAt w0 rb ⟨r.cs, ((rfs.take (k + 1)).map (cplR r.cs) ++ rfs.drop (k + 1)).map (·.1), r.pl⟩ m rcs ((rfs.take (k + 1)).map (cplR r.cs) ++ rfs.drop (k + 1)) none none (.slice AC rcs.length cC) (.slice (some ⟨g, 0, none⟩) rfs.length cF) W5) := by
            show RdAt _ _ _ _ _ _ _ _ _ _ _
            rw [← HSET.out, HEQ.out, hstt]
            simp only [if_true]
            exact hA5
          clear hA5 hstt bs5
          go_wp2_with fail
          go_roundw
          case rel => exact ⟨k + 1, by omega, by go_num, HA6.out⟩
          case measure => simp [intOf]; omega
        | false =>
          rw [hstt] at t1 hA5
          have hk5 : k < (L.set k (({ x.1 with static := false, nparams := G'.params.length, result := G'.result }, x.2) : RFn)).length := by rw [List.length_set]; exact hkl
          have hx5 : (L.set k (({ x.1 with static := false, nparams := G'.params.length, result := G'.result }, x.2) : RFn))[k] = ({ x.1 with static := false, nparams := G'.params.length, result := G'.result }, x.2) := by rw [List.getElem_set_self]
          obtain ⟨a6, b6, g6, hA6⟩ := hA5.setFn hk5 (j := 3) (u := .int .i64 ((G'.params.length : Int) + 1)) (old := .int .i64 G'.params.length) (y := ({ x.1 with static := false, nparams := (G'.params.length : Int) + 1, result := G'.result }, x.2)) (by decide) (by rw [hx5]; rfl) (by rw [hx5]; rfl) (by rw [hx5]) (by rw [hx5]) (by rw [hx5])
          rw [List.set_set] at hA6
          have HA6 : Hid (RdAt w0 rb ⟨r.cs, ((rfs.take (k + 1)).map (cplR r.cs) ++ rfs.drop (k + 1)).map (·.1), r.pl⟩ m rcs ((rfs.take (k + 1)).map (cplR r.cs) ++ rfs.drop (k + 1)) none none (.slice AC rcs.length cC) (.slice (some ⟨g, 0, none⟩) rfs.length cF) (W5.setCell ⟨g, k * 7 + 3, none⟩ (.int .i64 ((G'.params.length : Int) + 1)))) := by
            show RdAt _ _ _ _ _ _ _ _ _ _ _
            rw [← HSET.out, HEQ.out, hstt]
            simp only [Bool.false_eq_true, if_false]
            exact hA6
          have hwr : wrap64 ((G'.params.length : Int) + 1) = (G'.params.length : Int) + 1 := by unfold wrap64; omega
          clear hA5 hA6 hstt bs5 hx5 hk5
          go_wp2_with fail
          go_roundw
          case rel => exact ⟨k + 1, by omega, by go_num, HA6.out⟩
          case measure => simp [intOf]; omega
    · obtain rfl : k = rfs.length := by omega
      have emap : ((rfs.map (cplR r.cs)).map (·.1)) = r.fs.map (complF r.cs) := by
        rw [← eF, List.map_map, List.map_map]
        rfl
      rw [List.take_length, List.drop_length, List.append_nil, emap] at hA
      have hlf := hA.slF
      have hff : (r.fs.map (complF r.cs)).length ≤ 9223372036854775807 := by
        rw [← hlf.1]; exact Nat.le_trans hfl (by decide)
      have hsF := hlf.2.2
      have HLF := Lib.hid hlf.1
      clear hlf
      have hMC : Hid ((⟨#[77, 97, 105, 110]⟩ : ByteArray) = bsOf wMainC) := Lib.hid (by kernel_rfl)
      have hMM : Hid ((⟨#[109, 97, 105, 110]⟩ : ByteArray) = bsOf wMainM) := Lib.hid (by kernel_rfl)
      have HFD : Hid (∀ W', Below wr.heap.size wr W' → Calls Tryz.prog 10 #[.agg #[.slice AC rcs.length cC, .slice A rfs.length cF, .int .i64 0], .string ⟨#[77, 97, 105, 110]⟩, .string ⟨#[109, 97, 105, 110]⟩] W' fun e w' => e = .returned (.int .i64 (findU (r.fs.map (complF r.cs)) (bsOf wMainC) (bsOf wMainM))) ∧ Below W'.heap.size W' w') := fun W' h => by
        rw [← hMC.out, ← hMM.out, HLF.out]
        exact irFind_any AC A _ _ _ 0 _ _ _ W' hff (hsF.mono h)
      have r0 := hA.bx.cell 0 rfl
      have r1 := hA.bx.cell 1 rfl
      have r2 := hA.bx.cell 2 rfl
      have rl := hA.bx.lt
      have rf := fun i => hA.bx.free i
      generalize hmn : findU (r.fs.map (complF r.cs)) (bsOf wMainC) (bsOf wMainM) = mn at *
      have HH := Lib.hid hA
      have HMN := Lib.hid hmn
      clear hA hmn hsF hff eF emap
      go_wp2_with fail
      refine (HFD.out _ (Below.refl _ _)).mono ?_
      rintro e wF ⟨rfl, hbF⟩
      have hF := HH.out.mono hbF
      clear r0 r1 r2 rl rf HH HFD
      have r2 := hF.bx.cell 2 rfl
      have rl := hF.bx.lt
      have rf := fun i => hF.bx.free i
      have HF := Lib.hid (hF.final mn)
      clear hF hbF
      go_wp2_with fail
      go_end0
      rw [HMN.out]
      exact ⟨rfl, HF.out⟩
end Go.Proofs.YticpeombillmeaaGreatDoor
