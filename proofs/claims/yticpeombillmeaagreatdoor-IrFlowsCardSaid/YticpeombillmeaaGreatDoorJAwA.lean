/-
  Chapter 13: ir.Def; the closed example of the law: read, written, and read back.
-/
import Derived.Test.YticpeombillmeaaGreatDoorJIy
import Derived.Test.YticpeombillmeaaGreatDoorJIrU
import Derived.Test.YticpeombillmeaaGreatDoorJCb
namespace Go.Proofs.YticpeombillmeaaGreatDoor
open Go.RowKit
set_option linter.unusedVariables false

set_option maxHeartbeats 1000000 in
theorem def_any (x : Ins) (A : Option Addr) (c : Nat) (w : World) (hf : FormX w) :
    Calls Tryz.prog 15 #[.agg #[.int .i64 x.op, .int .i64 x.dst, .int .i64 x.a, .int .i64 x.b, .int .i64 x.n, .string x.cls, .string x.name, .slice A x.args.length c, .int .i64 x.jmp, .int .i64 x.hnd]] w fun e w' => e = .returned (.int .i64 (if usesB x.op 100 = true then x.dst else -1)) ∧ Below w.heap.size w w' := by
  obtain ⟨q, HQ⟩ : ∃ q, Hid (q = usesB x.op 100) := ⟨_, Lib.hid rfl⟩
  have HU := Lib.hid (fun W h => uses_any x.op 100 W (hf.mono h))
  rw [← HQ.out] at HU ⊢
  cases q with
  | true =>
    go_enter Tryz.func15, Tryz.ntmps15
    go_wp2_with fail
    refine (HU.out _ (by exact (by repeat (first | assumption | exact Below.refl _ _ | apply bw_alloc | apply bw_drew | apply bw_drewN | apply bw_later | apply bw_step)))).mono ?_
    rintro e w1 ⟨rfl, rfl⟩
    go_wp2_with fail
    go_ret
    exact ⟨rfl, (by repeat (first | assumption | exact Below.refl _ _ | apply bw_alloc | apply bw_drew | apply bw_drewN | apply bw_later | apply bw_step))⟩
  | false =>
    go_enter Tryz.func15, Tryz.ntmps15
    go_wp2_with fail
    refine (HU.out _ (by exact (by repeat (first | assumption | exact Below.refl _ _ | apply bw_alloc | apply bw_drew | apply bw_drewN | apply bw_later | apply bw_step)))).mono ?_
    rintro e w1 ⟨rfl, rfl⟩
    go_wp2_with fail
    go_ret
    exact ⟨rfl, (by repeat (first | assumption | exact Below.refl _ _ | apply bw_alloc | apply bw_drew | apply bw_drewN | apply bw_later | apply bw_step))⟩

def tinyB : ByteArray := ⟨#[99, 108, 97, 115, 115, 32, 77, 97, 105, 110, 10, 109, 101, 116, 104, 111, 100, 32, 109, 97, 105, 110, 32, 115, 116, 97, 116, 105, 99, 32, 45, 10, 102, 117, 110, 99, 32, 77, 97, 105, 110, 32, 109, 97, 105, 110, 10, 45, 49, 32, 114, 101, 116, 117, 114, 110, 32, 45, 49, 10]⟩
def tinyM : ByteArray := ⟨#[77, 97, 105, 110]⟩
def tinym : ByteArray := ⟨#[109, 97, 105, 110]⟩
def tinyI : Ins := ⟨13, 0, -1, 0, 0, ⟨#[]⟩, ⟨#[]⟩, [], 0, -1⟩
def tinyU : Unt := ⟨[⟨tinyM, ⟨#[]⟩, [], [⟨tinym, true, [], ⟨#[]⟩⟩]⟩], [⟨tinyM, tinym, true, 0, [], ⟨#[]⟩, [tinyI]⟩], 0⟩
theorem tiny_ok : (chkE tinyU).2.2 = 0 := by kernel_rfl
theorem tiny_txt : bsOf (txtU tinyU) = tinyB := by kernel_rfl
theorem tiny_I : ∀ f ∈ tinyU.funcs, ∀ x ∈ f.code, InsI x := by
  intro f hf x hx
  obtain rfl : f = ⟨tinyM, tinym, true, 0, [], ⟨#[]⟩, [tinyI]⟩ := List.mem_singleton.1 hf
  obtain rfl : x = tinyI := List.mem_singleton.1 hx
  unfold InsI
  simp only [tinyI]
  exact ⟨⟨by decide, by decide⟩, ⟨by decide, by decide⟩, ⟨by decide, by decide⟩, ⟨by decide, by decide⟩, ⟨by decide, by decide⟩, ⟨by decide, by decide⟩, fun v hv => by cases hv⟩
theorem tiny_p : parseU tinyB = some tinyU := by
  have h := parseU_text tiny_ok tiny_I (of_decide_eq_true (by kernel_rfl))
  rwa [tiny_txt] at h
theorem tiny_res : txtRes tinyU = (tinyB, 0) := by kernel_rfl

set_option maxRecDepth 100000 in
set_option maxHeartbeats 4000000 in
theorem awake_any (w : World) (hg : Gl3 w) : Calls Tryz.prog 9 #[] w fun e w' => e = .returned (.bool true) ∧ Below w.heap.size w w' := by
  have HP : Hid (∀ W, Below w.heap.size w W → Calls Tryz.prog 7 #[.string ⟨#[99, 108, 97, 115, 115, 32, 77, 97, 105, 110, 10, 109, 101, 116, 104, 111, 100, 32, 109, 97, 105, 110, 32, 115, 116, 97, 116, 105, 99, 32, 45, 10, 102, 117, 110, 99, 32, 77, 97, 105, 110, 32, 109, 97, 105, 110, 10, 45, 49, 32, 114, 101, 116, 117, 114, 110, 32, 45, 49, 10]⟩] W fun e w' => RetPs tinyB e w' ∧ Below W.heap.size W w') := fun W h => parse_any tinyB W (hg.mono h)
  have HT : Hid (∀ W (AC AF : Option Addr) (cC cF : Nat), Below w.heap.size w W → 1 ≤ cC → Sl Lay.cls W AC tinyU.classes → Sl Lay.fun W AF tinyU.funcs → Calls Tryz.prog 6 #[.agg #[.slice AC 1 cC, .slice AF 1 cF, .int .i64 0]] W fun e w' => e = .returned (.tuple #[.string ⟨#[99, 108, 97, 115, 115, 32, 77, 97, 105, 110, 10, 109, 101, 116, 104, 111, 100, 32, 109, 97, 105, 110, 32, 115, 116, 97, 116, 105, 99, 32, 45, 10, 102, 117, 110, 99, 32, 77, 97, 105, 110, 32, 109, 97, 105, 110, 10, 45, 49, 32, 114, 101, 116, 117, 114, 110, 32, 45, 49, 10]⟩, .int .i64 0]) ∧ Below W.heap.size W w') := fun W AC AF cC cF h hc hs hf => by
    have := text_any tinyU AC AF cC cF W (Lib.hid ((parseU_held tiny_p).2 hc hs hf (hg.mono h).fx (hg.mono h).kw)) (Lib.hid tiny_I) (hg.mono h)
    rw [tiny_res] at this
    exact this
  have HD : Hid (∀ W, Below w.heap.size w W → Calls Tryz.prog 15 #[.agg #[.int .i64 3, .int .i64 3, .int .i64 0, .int .i64 0, .int .i64 0, .string ⟨#[]⟩, .string ⟨#[]⟩, .slice none 0 0, .int .i64 0, .int .i64 0]] W fun e w' => e = .returned (.int .i64 3) ∧ Below W.heap.size W w') := fun W h => by
    have := def_any ⟨3, 3, 0, 0, 0, ⟨#[]⟩, ⟨#[]⟩, [], 0, 0⟩ none 0 W (hg.mono h).fx
    rw [show usesB (Ins.mk 3 3 0 0 0 ⟨#[]⟩ ⟨#[]⟩ [] 0 0).op 100 = true by kernel_rfl] at this
    exact this
  have HRA : Hid (∀ W, Below w.heap.size w W → Calls Tryz.prog 30 #[.agg #[.int .i64 14, .int .i64 0, .int .i64 0, .int .i64 0, .int .i64 0, .string ⟨#[]⟩, .string ⟨#[]⟩, .slice none 0 0, .int .i64 0, .int .i64 0]] W fun e w' => e = .returned (.bool true) ∧ Below W.heap.size W w') := fun W h => by
    have := raises_any ⟨14, 0, 0, 0, 0, ⟨#[]⟩, ⟨#[]⟩, [], 0, 0⟩ none 0 W
    rw [show raisesB (Ins.mk 14 0 0 0 0 ⟨#[]⟩ ⟨#[]⟩ [] 0 0) = true by kernel_rfl] at this
    exact this
  go_enter Tryz.func9, Tryz.ntmps9
  go_wp2_with fail
  refine (HP.out _ (Below.refl _ _)).mono ?_
  rintro e w1 ⟨hR, hb1⟩
  obtain ⟨AC, cC, AF, cF, rfl, hcC, hsC, hcF, hsF⟩ := hR.some tiny_p
  replace HP : True := trivial
  clear hR
  rw [show tinyU.classes.length = 1 from rfl, show tinyU.funcs.length = 1 from rfl, show tinyU.main = 0 from rfl]
  rw [show tinyU.classes.length = 1 from rfl] at hcC
  go_upto_region 2 with fail
  generalize hW : World.alloc _ _ = W1 at *
  have hbW : Below w1.heap.size w1 W1 := by rw [← hW]; exact (by repeat (first | assumption | exact Below.refl _ _ | apply bw_alloc | apply bw_drew | apply bw_drewN | apply bw_later | apply bw_step))
  have bu : Box W1 w1.heap.size [.slice AC 1 cC, .slice AF 1 cF, .int .i64 0] 27 := by rw [← hW]; exact (by repeat (first | (refine Box.at ?_; (simp; done)) | apply Box.drew | apply Box.alloc | assumption))
  clear hW
  have u0 := bu.cell 0 rfl
  have u1 := bu.cell 1 rfl
  have u2 := bu.cell 2 rfl
  have ul := bu.lt
  go_wp2_with fail
  refine (HT.out _ AC AF cC cF (below_step hb1 hbW) hcC (hsC.mono hbW) (hsF.mono hbW)).mono ?_
  rintro e w2 ⟨rfl, hb2⟩
  have bu2 := bu.mono hb2
  have hbw2 := below_step (below_step hb1 hbW) hb2
  clear u0 u1 u2 ul
  go_wp2_with fail
  refine (HD.out _ hbw2).mono ?_
  rintro e w3 ⟨rfl, hb3⟩
  have hbw3 := below_step hbw2 hb3
  go_wp2_with fail
  refine (HRA.out _ hbw3).mono ?_
  rintro e w4 ⟨rfl, hb4⟩
  have hbw4 := below_step hbw3 hb4
  have bu4 := bu2.mono (below_step hb3 hb4)
  have u1 := bu4.cell 1 rfl
  have ul := bu4.lt
  go_wp2_with fail
  go_ret
  exact ⟨rfl, hbw4⟩
end Go.Proofs.YticpeombillmeaaGreatDoor
