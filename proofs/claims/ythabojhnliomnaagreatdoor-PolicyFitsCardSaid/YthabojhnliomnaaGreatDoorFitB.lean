/-
  Chapter 42: rules and protocols against a hierarchy: the plain functions, and the reference's.
-/
import Derived.Test.YthabojhnliomnaaGreatDoorFitA
import Derived.Test.YthabojhnliomnaaGreatDoorPolP
namespace Go.Proofs.YthabojhnliomnaaGreatDoor
open Go.RowKit
set_option linter.unusedVariables false

/-- The signature that a look-up finds. -/
def sgL (cs : List Cls) (s m : ByteArray) : Option Sg := (cs[(lookS cs s m).1.toNat]?).bind fun x => if (lookS cs s m).1 < 0 then none else x.methods[(lookS cs s m).2.toNat]?
def noLook : Ending := .returned (.tuple #[.string ByteArray.empty, .agg #[.string ByteArray.empty, .bool false, .slice none 0 0, .string ByteArray.empty], .bool false])
structure LookV (cs : List Cls) (o : Option Sg) (e : Ending) : Prop where
  no : o = none → e = noLook
  yes : ∀ g, o = some g → g.params.length ≤ 8796093022208 ∧ ∃ (nm : ByteArray) (A : Option Addr) (c : Nat), e = .returned (.tuple #[.string nm, .agg #[.string g.name, .bool g.static, .slice A g.params.length c, .string g.result], .bool true])
theorem LookR.toV {cs : List Cls} {s m : ByteArray} {e : Ending} {w' : World} (hlk : LensOk cs) (h : LookR cs (lookS cs s m) e w') : LookV cs (sgL cs s m) e := by
  rcases lookL_bd (cs := cs) (m := m) (chR_bd (fnd_bd cs s).2).1 with h1 | ⟨j, k, hj, hk, h1, _, _⟩
  · have h2 : lookS cs s m = (-1, -1) := h1
    have h3 : sgL cs s m = none := by
      unfold sgL
      rw [h2]
      cases cs[(-1 : Int).toNat]? <;> simp
    exact ⟨fun _ => h.no h2, fun g hg => by rw [h3] at hg; cases hg⟩
  · have h2 : lookS cs s m = ((j : Int), (k : Int)) := h1
    have h3 : sgL cs s m = some cs[j].methods[k] := by
      unfold sgL
      rw [h2]
      simp only [Int.toNat_natCast, List.getElem?_eq_getElem hj, Option.bind_some]
      rw [if_neg (by omega), List.getElem?_eq_getElem hk]
    refine ⟨(fun hn => by rw [h3] at hn; cases hn), fun g hg => ?_⟩
    obtain rfl : cs[j].methods[k] = g := by rw [h3] at hg; exact Option.some.inj hg
    obtain ⟨v, hv, A, c, rfl, _, _⟩ := h.yes j k hj hk h2
    exact ⟨(hlk _ (List.getElem_mem hj)).2.2 _ (List.getElem_mem hk), _, A, c, hv⟩
theorem sgL_lost {cs : List Cls} {s m : ByteArray} (h : fnd cs s < 0) : sgL cs s m = none := by
  have h2 : lookS cs s m = (-1, -1) := by
    unfold lookS lookI chR
    rw [chGo_stop (by omega)]
    rfl
  unfold sgL
  rw [h2]
  cases cs[(-1 : Int).toNat]? <;> simp
def cntG (g : Sg) : Int := (g.params.length : Int) + (if g.static then 0 else 1)
def fitG (g : Sg) (x : Rul) : Int := if x.pth.root = 1 ∧ cntG g ≤ x.pth.n then 4 else if x.pth.root = 2 ∧ g.result.toList.isEmpty = true then 8 else 0
def fitE (cs : List Cls) (x : Rul) : Int := match sgL cs x.cls x.mth with
  | none => 6
  | some g => fitG g x
def fitM (cs : List Cls) (cl mt : ByteArray) : Int := match sgL cs cl mt with
  | none => 6
  | some g => if g.static then 6 else 0
def fitMF (cs : List Cls) (cl : ByteArray) (l : List Mov) (k : Nat) : Int := match l[k]? with
  | some m => fitM cs cl m.mth
  | none => 0
theorem fitMF_at {cs : List Cls} {cl : ByteArray} {l : List Mov} {k : Nat} (h : k < l.length) : fitMF cs cl l k = fitM cs cl l[k].mth := by unfold fitMF; rw [List.getElem?_eq_getElem h]
def fitP (cs : List Cls) (q : Ptc) : Int := if fnd cs q.cls < 0 then 6 else firstE (fitMF cs q.cls q.moves) q.moves.length
def OkCs (cs : List Cls) : Prop := cs.length ≤ 8796093022208 ∧ NamesOk cs ∧ LensOk cs

set_option maxRecDepth 100000 in
set_option maxHeartbeats 4000000 in
theorem fitsRule_any (cs : List Cls) (x : Rul) (A A5 : Option Addr) (c c5 : Nat) (w : World) (hcs : Hid (OkCs cs)) (hsl : Sl Lay.cls w A cs) :
    Calls Tryz.prog 59 #[.agg #[.slice A cs.length c], .agg #[.int .i64 x.kind, .string x.cls, .string x.mth, .int .i64 x.pth.root, .int .i64 x.pth.n, .slice A5 x.pth.fields.length c5, .bool x.pth.star, .string x.tag]] w fun e w' => e = .returned (.int .i64 (fitE cs x)) ∧ Below w.heap.size w w' := by
  obtain ⟨r, HR⟩ : ∃ r, Hid (r = fitE cs x) := ⟨_, Lib.hid rfl⟩
  rw [← HR.out]
  have bh0 := Box.new w [.slice A cs.length c] 42
  have bx0 := Box.new (w.alloc (.cells #[.slice A cs.length c] 42)) [.int .i64 x.kind, .string x.cls, .string x.mth, .int .i64 x.pth.root, .int .i64 x.pth.n, .slice A5 x.pth.fields.length c5, .bool x.pth.star, .string x.tag] 51
  have hb0 : Below w.heap.size w ((w.alloc (.cells #[.slice A cs.length c] 42)).alloc (.cells #[.int .i64 x.kind, .string x.cls, .string x.mth, .int .i64 x.pth.root, .int .i64 x.pth.n, .slice A5 x.pth.fields.length c5, .bool x.pth.star, .string x.tag] 51)) := (by repeat (first | assumption | exact Below.refl _ _ | apply bw_alloc | apply bw_drew | apply bw_drewN | apply bw_later | apply bw_step))
  rw [show (w.alloc (.cells #[.slice A cs.length c] 42)).heap.size = w.heap.size + 1 by simp] at bx0
  have HLK := Lib.hid (fun W h => refLookup_g A c cs x.cls x.mth W hcs.out.1 (hsl.mono h) (Lib.hid hcs.out.2.2))
  go_enter Tryz.func59, Tryz.ntmps59
  go_wp2_with fail
  refine (HLK.out _ hb0).mono ?_
  rintro e w1 ⟨hR, hb1⟩
  have hV := hR.toV hcs.out.2.2
  have bx1 := bx0.mono hb1
  have hbw1 := below_step hb0 hb1
  clear hR hb0 hb1 bh0 bx0
  have p3 := bx1.cell 3 rfl
  have p4 := bx1.cell 4 rfl
  have pl := bx1.lt
  cases hsg : sgL cs x.cls x.mth with
  | none =>
    have HB : Hid (r = 6) := by show _ = _; rw [HR.out, fitE, hsg]
    obtain rfl := hV.no hsg
    unfold noLook
    clear hV hsg
    go_wp2_with fail
    go_ret
    exact ⟨by rw [HB.out]; rfl, bw_alloc hbw1⟩
  | some g =>
    have HF : Hid (r = fitG g x) := by show _ = _; rw [HR.out, fitE, hsg]
    obtain ⟨hpl, nm, A7, c7, rfl⟩ := hV.yes g hsg
    clear hV hsg HR
    have HFIN : Hid (∀ v : Int, v = fitG g x → ∀ W, Below w.heap.size w W → Ending.returned (.int .i64 v) = Ending.returned (.int .i64 r) ∧ Below w.heap.size w W) := fun v hv W hW => ⟨by rw [HF.out, hv], hW⟩
    have HG : Hid (∀ v : Int, (v = if x.pth.root = 1 ∧ cntG g ≤ x.pth.n then 4 else if x.pth.root = 2 ∧ g.result.toList.isEmpty = true then 8 else 0) → v = fitG g x) := fun v hv => hv
    have hcn : cntG g = (g.params.length : Int) + (if g.static then 0 else 1) := rfl
    cases hst : g.static with
    | true =>
      rw [hst, if_pos rfl, Int.add_zero] at hcn
      have HCN := Lib.hid hcn
      clear hcn
      by_cases r1 : x.pth.root = 1
      · have t1 : (x.pth.root == 1) = true := by simpa using r1
        have t2 : (x.pth.root == 2) = false := by rw [r1]; rfl
        by_cases hN : (g.params.length : Int) ≤ x.pth.n
        · have HV : Hid ((4 : Int) = fitG g x) := HG.out _ (by rw [if_pos ⟨r1, by rw [HCN.out]; exact hN⟩])
          clear r1
          go_wp2_with fail
          go_ret
          exact HFIN.out _ HV.out _ (bw_alloc hbw1)
        · have HV : Hid ((0 : Int) = fitG g x) := HG.out _ (by rw [if_neg (fun h => hN (by rw [← HCN.out]; exact h.2)), if_neg (by omega)])
          clear r1
          go_wp2_with fail
          go_ret
          exact HFIN.out _ HV.out _ (bw_alloc hbw1)
      · have t1 : (x.pth.root == 1) = false := by simpa using r1
        by_cases r2 : x.pth.root = 2
        · have t2 : (x.pth.root == 2) = true := by simpa using r2
          cases he : g.result.toList.isEmpty with
          | true =>
            have HV : Hid ((8 : Int) = fitG g x) := HG.out _ (by rw [if_neg (fun h => r1 h.1), if_pos ⟨r2, he⟩])
            clear r1 r2
            go_wp2_with fail
            go_ret
            exact HFIN.out _ HV.out _ (bw_alloc hbw1)
          | false =>
            have HV : Hid ((0 : Int) = fitG g x) := HG.out _ (by rw [if_neg (fun h => r1 h.1), if_neg (fun h => by rw [he] at h; simp at h)])
            clear r1 r2
            go_wp2_with fail
            go_ret
            exact HFIN.out _ HV.out _ (bw_alloc hbw1)
        · have t2 : (x.pth.root == 2) = false := by simpa using r2
          have HV : Hid ((0 : Int) = fitG g x) := HG.out _ (by rw [if_neg (fun h => r1 h.1), if_neg (fun h => r2 h.1)])
          clear r1 r2
          go_wp2_with fail
          go_ret
          exact HFIN.out _ HV.out _ (bw_alloc hbw1)
    | false =>
      rw [hst, if_neg (by simp)] at hcn
      have HCN := Lib.hid hcn
      clear hcn
      by_cases r1 : x.pth.root = 1
      · have t1 : (x.pth.root == 1) = true := by simpa using r1
        have t2 : (x.pth.root == 2) = false := by rw [r1]; rfl
        by_cases hN : (g.params.length : Int) + 1 ≤ x.pth.n
        · have HV : Hid ((4 : Int) = fitG g x) := HG.out _ (by rw [if_pos ⟨r1, by rw [HCN.out]; exact hN⟩])
          clear r1
          go_wp2_with fail
          go_ret
          exact HFIN.out _ HV.out _ (bw_alloc hbw1)
        · have HV : Hid ((0 : Int) = fitG g x) := HG.out _ (by rw [if_neg (fun h => hN (by rw [← HCN.out]; exact h.2)), if_neg (by omega)])
          clear r1
          go_wp2_with fail
          go_ret
          exact HFIN.out _ HV.out _ (bw_alloc hbw1)
      · have t1 : (x.pth.root == 1) = false := by simpa using r1
        by_cases r2 : x.pth.root = 2
        · have t2 : (x.pth.root == 2) = true := by simpa using r2
          cases he : g.result.toList.isEmpty with
          | true =>
            have HV : Hid ((8 : Int) = fitG g x) := HG.out _ (by rw [if_neg (fun h => r1 h.1), if_pos ⟨r2, he⟩])
            clear r1 r2
            go_wp2_with fail
            go_ret
            exact HFIN.out _ HV.out _ (bw_alloc hbw1)
          | false =>
            have HV : Hid ((0 : Int) = fitG g x) := HG.out _ (by rw [if_neg (fun h => r1 h.1), if_neg (fun h => by rw [he] at h; simp at h)])
            clear r1 r2
            go_wp2_with fail
            go_ret
            exact HFIN.out _ HV.out _ (bw_alloc hbw1)
        · have t2 : (x.pth.root == 2) = false := by simpa using r2
          have HV : Hid ((0 : Int) = fitG g x) := HG.out _ (by rw [if_neg (fun h => r1 h.1), if_neg (fun h => r2 h.1)])
          clear r1 r2
          go_wp2_with fail
          go_ret
          exact HFIN.out _ HV.out _ (bw_alloc hbw1)
end Go.Proofs.YthabojhnliomnaaGreatDoor
