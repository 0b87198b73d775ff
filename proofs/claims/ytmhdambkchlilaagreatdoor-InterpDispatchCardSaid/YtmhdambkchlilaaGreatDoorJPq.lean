/- Chapter 10: the answer's put: a string in its place in an ascending list. (The text of CfgG, for strings.) Chapter 10: the answer's Subs and Targets in any hierarchy. Chapters 15, 42: the answer's Dispatch; the functions that a rule means (the program's and the answer's). -/
import Derived.Test.YtmhdambkchlilaaGreatDoorJPolA
import Derived.Test.YtmhdambkchlilaaGreatDoorJGk
import Derived.Test.YtmhdambkchlilaaGreatDoorJPl
import Derived.Test.YtmhdambkchlilaaGreatDoorJRa
import Derived.Test.YtmhdambkchlilaaGreatDoorJHc
import Derived.Test.YtmhdambkchlilaaGreatDoorJGb
import Derived.Test.YtmhdambkchlilaaGreatDoorJGh
namespace Go.Proofs.YtmhdambkchlilaaGreatDoor
open Go.RowKit
set_option linter.unusedVariables false
set_option maxRecDepth 100000
set_option maxHeartbeats 2000000
def dispI (cs : List Cls) (fs : List Fun) (l m : ByteArray) : Int := match sgAt cs (lookS cs l m) with
 | none => -1
 | some g => if g.static then -1 else findU fs (nmAt cs (lookS cs l m).1) m
theorem disp_ok {cs : List Cls} {fs : List Fun} {l m : ByteArray} {w' : World} {nm : ByteArray} {g : Sg} {A : Option Addr} {c : Nat} {ok : Bool} (h : LokR cs (lookS cs l m) w' nm g A c ok) : dispI cs fs l m = if (ok && !g.static) = true then findU fs nm m else -1 := by
 unfold dispI
 cases ok with
 | false => rw [h.no rfl]; rfl
 | true =>
  obtain ⟨h1,h2⟩ := h.yes rfl
  rw [h1,h2]
  show (if g.static = true then (-1 : Int) else _) = _
  cases g.static with
  | true => rfl
  | false => rfl
theorem refDisp_any (u : Unt) (A0 A1 : Option Addr) (c0 c1 : Nat) (l m : ByteArray) (w : World) (hl : u.classes.length ≤ 8796093022208) (hs : Sl Lay.cls w A0 u.classes) (hlk : Hid (LensOk u.classes)) (hfl : u.funcs.length ≤ 8796093022208) (hf : Sl Lay.fun w A1 u.funcs) :
  Calls Tryz.prog 14 #[.agg #[.slice A0 u.classes.length c0,.slice A1 u.funcs.length c1,.int .i64 u.main],.string l,.string m] w fun e w' => e = .returned (.int .i64 (dispI u.classes u.funcs l m)) ∧ Below w.heap.size w w' := by
 obtain ⟨r,HR⟩ : ∃ r,Hid (r = dispI u.classes u.funcs l m) := ⟨_,Lib.hid rfl⟩
 rw [← HR.out]
 go_enter Tryz.func14,Tryz.ntmps14
 go_upto_region 1 with fail
 generalize hW : World.alloc _ _ = W1 at *
 have hb1 : Below w.heap.size w W1 := by rw [← hW]; exact (by repeat (first | assumption | exact Below.refl _ _ | apply bw_alloc | apply bw_drew | apply bw_drewN | apply bw_later | apply bw_step))
 have bu : Box W1 w.heap.size [.slice A0 u.classes.length c0,.slice A1 u.funcs.length c1,.int .i64 u.main] 32 := by rw [← hW]; exact Box.new _ _ _
 clear hW
 have u0 := bu.cell 0 rfl
 have ul := bu.lt
 go_wp2_with fail
 refine (refLookup_g A0 c0 u.classes l m _ hl (hs.mono hb1) hlk).mono ?_
 rintro e w2 ⟨hR,hq2⟩
 have hb2 := below_step hb1 hq2
 have bu2 := bu.mono hq2
 obtain ⟨nm,g,AP,cP,ok,rfl,hK⟩ := hR.ok hlk.out
 have HD := Lib.hid (disp_ok (fs := u.funcs) hK)
 clear u0 ul bu hR hK hq2
 go_upto_region 2 with fail
 generalize hW : World.alloc _ _ = W3 at *
 have h23 : Below w2.heap.size w2 W3 := by rw [← hW]; exact bw_alloc (Below.refl _ _)
 have bs : Box W3 w2.heap.size [.string g.name,.bool g.static,.slice AP g.params.length cP,.string g.result] 36 := by rw [← hW]; exact Box.new _ _ _
 clear hW
 have hb3 := below_step hb2 h23
 have bu3 := bu2.mono h23
 have s1 := bs.cell 1 rfl
 have sl := bs.lt
 clear h23 bu2
 cases ok with
 | false =>
  have HB : Hid (r = -1) := by show r = -1; rw [HR.out,HD.out]; rfl
  go_wp2_with fail
  go_ret
  exact ⟨by rw [HB.out]; rfl,hb3⟩
 | true =>
 cases hst : g.static with
 | true =>
  rw [hst] at s1
  have HB : Hid (r = -1) := by show r = -1; rw [HR.out,HD.out,hst]; rfl
  go_wp2_with fail
  go_ret
  exact ⟨by rw [HB.out]; rfl,hb3⟩
 | false =>
  rw [hst] at s1
  have HB : Hid (r = findU u.funcs nm m) := by show r = _; rw [HR.out,HD.out,hst]; rfl
  have u0 := bu3.cell 0 rfl
  have u1 := bu3.cell 1 rfl
  have u2 := bu3.cell 2 rfl
  have ul := bu3.lt
  go_wp2_with fail
  refine (ref13Find_any A0 A1 u.classes.length c0 c1 u.main u.funcs nm m _ (by omega) (hf.mono hb3)).mono ?_
  rintro e w4 ⟨rfl,hq4⟩
  go_wp2_with fail
  go_ret
  exact ⟨by rw [HB.out]; rfl,below_step hb3 hq4⟩
theorem findU_bd (fs : List Fun) (c m : ByteArray) : -1 ≤ findU fs c m ∧ findU fs c m < fs.length := idxI_ge _ _
end Go.Proofs.YtmhdambkchlilaaGreatDoor
