/-
  Chapter 45: numbers in decimal, both sides; the variables of Go's library that they read.
-/
import Derived.Test.YtlcdnkloijehjaaGreatDoorRepS
import Derived.Test.YtlcdnkloijehjaaGreatDoorBld
namespace Go.Proofs.YtlcdnkloijehjaaGreatDoor
open Go.RowKit
set_option linter.unusedVariables false

/-- What the package variables hold. -/
structure Glo (w : World) : Prop where
  kw : KwX w
  tab : Lib.TabIs Tryz.prog w "internal/strconv.uint64pow10" .u64 Lib.pow10Tab
  lt : 2 < w.heap.size
  es : ∃ t p, w.cell? ⟨3, 0, none⟩ = some (.iface t p)
  er : ∃ t p, w.cell? ⟨4, 0, none⟩ = some (.iface t p)
theorem cell_lt {w : World} {b o : Nat} {v : Value} (h : w.cell? ⟨b, o, none⟩ = some v) : b < w.heap.size := (cell_form h).2
theorem Glo.mono {w w' : World} (h : Glo w) (hb : Below w.heap.size w w') : Glo w' := by
  obtain ⟨h1, h2, h3, ⟨t, p, h4⟩, ⟨t', p', h5⟩⟩ := h
  refine ⟨h1.mono hb, var?_below hb (by kernel_rfl) h3 h2, Nat.lt_of_lt_of_le h3 hb.size, ⟨t, p, ?_⟩, ⟨t', p', ?_⟩⟩
  · rw [hb.cell (p := ⟨_, 0, none⟩) (cell_lt h4)]; exact h4
  · rw [hb.cell (p := ⟨_, 0, none⟩) (cell_lt h5)]; exact h5
theorem below_growN (w : World) (k : Nat) (os : Array Obj) : Below w.heap.size w (Go.Sort.grow (w.drewN k) os) :=
  ⟨rfl, rfl, rfl, by show w.heap.size ≤ (w.heap ++ os).size; rw [Array.size_append]; omega, fun j hj => by show (w.heap ++ os)[j]? = _; rw [Array.getElem?_append_left hj]⟩
theorem itoa_any (n : Int) (w : World) (hn : I64 n) (hg : Glo w) : Calls Tryz.prog 33 #[.int .i64 n] w fun e w' => e = .returned (.string (bsOf (dg n))) ∧ Below w.heap.size w w' :=
  (Tryz.strconv_Itoa n hn.1 hn.2 w hg.tab).mono fun e w' ⟨h1, k, os, h2⟩ => ⟨h1, by rw [h2]; exact below_growN w k os⟩

theorem run_byteS (W : World) (b : Nat) (x : Int) (hc : W.cell? ⟨b, 0, none⟩ = some (.int .u8 x)) : (convert 58 9 (.slice (some ⟨b, 0, none⟩) 1 1)).run Tryz.prog W = .ok (.string ⟨#[UInt8.ofNat x.toNat]⟩) W := by
  rw [run_convert_bytes_string W _ _ 5 _ _ _ Tryz.underlying58 Tryz.underlying5 Tryz.underlying9]
  rw [run_bytesToString W ⟨b, 0, none⟩ 1 1 [x] (by simp [go_sem, hc])]
  rfl
theorem dig_last {u : Nat} (h : ¬ u < 10) : Lib.decDigits u = Lib.decDigits (u / 10) ++ [48 + UInt8.ofNat (u % 10)] := by
  rw [Lib.decDigits, dif_neg h, UInt8.ofNat_add]
  rfl
theorem dig_one {u : Nat} (h : u < 10) : Lib.decDigits u = [UInt8.ofNat (48 + u % 10)] := by
  rw [Lib.decDigits_one h, Nat.mod_eq_of_lt h]
theorem dec_len {u : Nat} (h : u ≤ 9223372036854775808) : (Lib.decDigits u).length ≤ 22 := by
  by_cases h0 : u = 9223372036854775808
  · subst h0
    have := Lib.itoa_length_le (-9223372036854775808) (by omega) (by omega)
    unfold Lib.itoa at this
    rw [if_pos (by decide)] at this
    simp only [List.length_cons] at this
    exact Nat.le_trans (Nat.le_succ _) (by simpa using Nat.le_succ_of_le this)
  · have := Lib.itoa_length_le (u : Int) (by omega) (by omega)
    unfold Lib.itoa at this
    rw [if_neg (by omega)] at this
    simp only [Int.toNat_natCast] at this
    omega
set_option maxHeartbeats 2000000 in
theorem digNat (u : Nat) : u ≤ 9223372036854775807 → ∀ w, Calls Tryz.prog 40 #[.int .i64 u] w fun e w' => e = .returned (.string (bsOf (Lib.decDigits u))) ∧ Below w.heap.size w w' := by
  induction u using Nat.strongRecOn with
  | ind u ih =>
  intro hu w
  have hcv := run_byteS
  obtain ⟨R, HR⟩ : ∃ R, Hid (R = Lib.decDigits u) := ⟨_, Lib.hid rfl⟩
  rw [← HR.out]
  go_enter Tryz.func40, Tryz.ntmps40
  by_cases h : u < 10
  · have hu1 : (u : Int) < 10 := by omega
    have HB : Hid (R = [UInt8.ofNat (48 + u % 10)]) := Lib.hid (HR.out.trans (dig_one h))
    go_wp2_with fail
    go_ret
    exact ⟨by rw [HB.out]; rfl, (by repeat (first | assumption | exact Below.refl _ _ | apply bw_alloc | apply bw_drew | apply bw_drewN | apply bw_later | apply bw_step))⟩
  · have hu1 : ¬ (u : Int) < 10 := by omega
    have HC := Lib.hid (ih (u / 10) (by omega) (by omega))
    have HB : Hid (R = Lib.decDigits (u / 10) ++ [48 + UInt8.ofNat (u % 10)]) := Lib.hid (HR.out.trans (dig_last h))
    have hl : (bsOf (Lib.decDigits (u / 10))).size ≤ 22 := by rw [bsOf_size]; exact dec_len (by omega)
    have e1 : ((u / 10 : Nat) : Int) = (u : Int) / 10 := by omega
    rw [e1] at HC
    clear ih e1
    obtain ⟨D, HD⟩ : ∃ D, Hid (D = bsOf (Lib.decDigits (u / 10))) := ⟨_, Lib.hid rfl⟩
    rw [← HD.out] at HC hl
    go_wp2_with fail
    refine (HC.out _).mono ?_
    rintro e w1 ⟨rfl, hb1⟩
    go_wp2_with fail
    go_ret
    refine ⟨?_, below_step (by exact (by repeat (first | assumption | exact Below.refl _ _ | apply bw_alloc | apply bw_drew | apply bw_drewN | apply bw_later | apply bw_step))) hb1⟩
    rw [HB.out]
    refine congrArg (fun s => Ending.returned (Value.string s)) (toL_inj ?_)
    rw [toL_app, HD.out]
    rfl
theorem neg_div10 (u : Nat) : (-(u : Int)).tdiv 10 = -((u / 10 : Nat) : Int) := by
  rw [Int.neg_tdiv]
  rfl
theorem neg_mod10 (u : Nat) : (-(u : Int)).tmod 10 = -((u % 10 : Nat) : Int) := by
  rw [Int.neg_tmod]
  rfl
set_option maxHeartbeats 2000000 in
theorem digNeg (u : Nat) : 1 ≤ u → u ≤ 9223372036854775808 → ∀ w, Calls Tryz.prog 40 #[.int .i64 (-(u : Int))] w fun e w' => e = .returned (.string (bsOf (45 :: Lib.decDigits u))) ∧ Below w.heap.size w w' := by
  induction u using Nat.strongRecOn with
  | ind u ih =>
  intro h1 hu w
  have hcv := run_byteS
  have hd := neg_div10 u
  have hm := neg_mod10 u
  obtain ⟨n, hn⟩ : ∃ n : Int, n = -(u : Int) := ⟨_, rfl⟩
  rw [← hn] at hd hm ⊢
  have hn1 : n < 0 := by omega
  have hn2 : -9223372036854775808 ≤ n := by omega
  clear hn
  obtain ⟨R, HR⟩ : ∃ R, Hid (R = 45 :: Lib.decDigits u) := ⟨_, Lib.hid rfl⟩
  rw [← HR.out]
  go_enter Tryz.func40, Tryz.ntmps40
  by_cases h : u < 10
  · have HU : Hid (u / 10 = 0) := by show _ = _; omega
    have HB : Hid (R = 45 :: [48 + UInt8.ofNat (u % 10)]) := Lib.hid (HR.out.trans (by rw [dig_one h, UInt8.ofNat_add]; rfl))
    rw [HU.out] at hd
    go_wp2_with fail
    go_ret
    refine ⟨?_, (by repeat (first | assumption | exact Below.refl _ _ | apply bw_alloc | apply bw_drew | apply bw_drewN | apply bw_later | apply bw_step))⟩
    rw [HB.out]
    refine congrArg (fun s => Ending.returned (Value.string s)) (toL_inj ?_)
    rw [toL_app]
    rfl
  · have hq : 1 ≤ u / 10 := by omega
    have HC := Lib.hid (ih (u / 10) (by omega) (by omega) (by omega))
    have HB : Hid (R = 45 :: Lib.decDigits (u / 10) ++ [48 + UInt8.ofNat (u % 10)]) := Lib.hid (HR.out.trans (by rw [dig_last h]; rfl))
    have hl : (bsOf (45 :: Lib.decDigits (u / 10))).size ≤ 23 := by rw [bsOf_size, List.length_cons]; have := dec_len (u := u / 10) (by omega); omega
    have e1 : ((u / 10 : Nat) : Int) = (u : Int) / 10 := by omega
    have tz : (-((u : Int) / 10) == 0) = false := by rw [beq_eq_false_iff_ne]; omega
    rw [e1] at HC
    clear ih e1
    obtain ⟨D, HD⟩ : ∃ D, Hid (D = bsOf (45 :: Lib.decDigits (u / 10))) := ⟨_, Lib.hid rfl⟩
    rw [← HD.out] at HC hl
    go_wp2_with fail
    refine (HC.out _).mono ?_
    rintro e w1 ⟨rfl, hb1⟩
    go_wp2_with fail
    go_ret
    refine ⟨?_, below_step (by exact (by repeat (first | assumption | exact Below.refl _ _ | apply bw_alloc | apply bw_drew | apply bw_drewN | apply bw_later | apply bw_step))) hb1⟩
    rw [HB.out]
    refine congrArg (fun s => Ending.returned (Value.string s)) (toL_inj ?_)
    rw [toL_app, HD.out]
    rfl
theorem digits_any (n : Int) (w : World) (hn : I64 n) : Calls Tryz.prog 40 #[.int .i64 n] w fun e w' => e = .returned (.string (bsOf (dg n))) ∧ Below w.heap.size w w' := by
  obtain ⟨h0, h1⟩ := hn
  unfold dg Lib.itoa
  by_cases h : n < 0
  · rw [if_pos h]
    obtain ⟨u, rfl⟩ : ∃ u : Nat, n = -(u : Int) := ⟨n.natAbs, by omega⟩
    have := digNeg u (by omega) (by omega) w
    rw [Int.natAbs_neg, Int.natAbs_natCast]
    exact this
  · rw [if_neg h]
    obtain ⟨u, rfl⟩ : ∃ u : Nat, n = (u : Int) := ⟨n.toNat, by omega⟩
    rw [Int.toNat_natCast]
    exact digNat u (by omega) w

/-! ### Builders in memory that closures share -/
/-- Boxes of other types than a builder's stay. -/
def Keeps (w w' : World) : Prop := ∀ (k : Nat) (cs : Array Value) (t : TypeId), t ≠ 5 → t ≠ 60 → w.heap[k]? = some (.cells cs t (0, 0)) → w'.heap[k]? = some (.cells cs t (0, 0))
theorem Keeps.refl (w : World) : Keeps w w := fun _ _ _ _ _ h => h
theorem Keeps.trans {a b c : World} (h : Keeps a b) (k : Keeps b c) : Keeps a c := fun i cs t h1 h2 h3 => k i cs t h1 h2 (h i cs t h1 h2 h3)
theorem Keeps.below {w w' : World} (h : Below w.heap.size w w') : Keeps w w' := fun k cs t _ _ hk => by rw [h.block k (Array.getElem?_eq_some_iff.1 hk).1]; exact hk
theorem Keeps.box {w w' : World} {b : Nat} {cs : List Value} {t : TypeId} (h : Keeps w w') (h1 : t ≠ 5) (h2 : t ≠ 60) (hb : Box w b cs t) : Box w' b cs t := h b _ t h1 h2 hb
theorem Keeps.set {w : World} {b i : Nat} {cs : Array Value} {v : Value} (hb : w.heap[b]? = some (.cells cs 60 (0, 0))) : Keeps w (w.setCell ⟨b, i, none⟩ v) := fun k ds t _ h2 hk => by
  have hne : b ≠ k := fun e => by
    subst e
    rw [hb] at hk
    injection hk with hk
    injection hk with _ ht
    exact h2 ht.symm
  show (w.setCell ⟨b, i, none⟩ v).heap[k]? = _
  unfold World.setCell
  simp only [Array.getElem?_modify, if_neg hne]
  exact hk
theorem Keeps.grown {w w' : World} {v : Value} {n : Nat} {xs : List Value} {B : Nat} (hown : w.ownsRow B 5 1 v n xs) (hg : w.grownBy w' v.ownBlock) : Keeps w w' := fun k cs t h1 _ hk => by
  rw [hg.block k (Array.getElem?_eq_some_iff.1 hk).1 ?_]
  · exact hk
  · intro he
    rcases hown.2 with ⟨rfl, _⟩ | ⟨g, cap, cur, rfl, _, hh, _⟩
    · simp [Value.ownBlock] at he
    · have : k = g := by simpa [Value.ownBlock] using he
      subst this
      rw [hk] at hh
      injection hh with hh
      injection hh with _ ht
      exact h1 ht
theorem copyCheckK (B b : Nat) (bs : List Value) (w : World) (h : Lib.IsBuilder 60 5 B b bs w) :
    Calls Tryz.prog 68 #[.pointer (some ⟨b, 0, none⟩)] w fun e w' => e = .returned (.tuple #[]) ∧ (Lib.BuilderAt 60 5 B b (.pointer (some ⟨b, 0, none⟩)) bs w' ∧ Below B w w' ∧ Keeps w w') := by
  rcases h with h | h
  · refine (copyCheck_fresh b w h.cell0 h.shape h.frozen0).mono ?_
    rintro e w' ⟨rfl, rfl⟩
    obtain ⟨hB, v, hbk, _⟩ := id h
    exact ⟨rfl, h.used _, (Below.refl B w).setCell (p := ⟨b, 0, none⟩) h.1 _, Keeps.set hbk⟩
  · refine (copyCheck_used b w h.cell0).mono ?_
    rintro e w' ⟨rfl, rfl⟩
    exact ⟨rfl, h, Below.refl B _, Keeps.refl _⟩
set_option maxHeartbeats 2000000 in
set_option maxRecDepth 100000 in
theorem writeStringK (B b : Nat) (bs : List Value) (s : ByteArray) (w : World) (h : Lib.IsBuilder 60 5 B b bs w) (hlen : bs.length + s.size ≤ 140737488355328) (hBw : B ≤ w.heap.size) :
    Calls Tryz.prog 30 #[.pointer (some ⟨b, 0, none⟩), .string s] w fun e w' => e = .returned (.tuple #[.int .i64 s.size, .nilIface]) ∧ (Lib.BuilderAt 60 5 B b (.pointer (some ⟨b, 0, none⟩)) (bs ++ Lib.strCells s) w' ∧ Below B w w' ∧ Keeps w w') := by
  obtain ⟨i0, hi, hz0, hz1, hz2⟩ := info_parts Tryz.Builder_Extra_169.infoByte
  go_enter Tryz.func30, Tryz.ntmps30
  go_wp2_with fail
  refine (copyCheckK B b bs _ h).mono ?_
  rintro e w1 ⟨rfl, h1, hb1, hk1⟩
  obtain ⟨hB, v, hbk, hown, hne⟩ := h1
  have c0 : w1.cell? ⟨b, 0, none⟩ = some (.pointer (some ⟨b, 0, none⟩)) := by rw [Lib.cell_of_heap hbk]; rfl
  have c1 : w1.cell? ⟨b, 1, none⟩ = some v := by rw [Lib.cell_of_heap hbk]; rfl
  have hlt : b < w1.heap.size := (Array.getElem?_eq_some_iff.1 hbk).1
  have HK := Lib.hid hk1
  clear hk1
  go_wp2_with (at_builtin; refine Lib.wpList_append_own_string _ rfl _ _ 58 9 rfl B 5 i0 Tryz.underlying58 Tryz.underlying9 hi hz0 hz1 hz2 _ _ _ rfl hown s rfl ?c3 ?c4 ?c5 ?_)
  case c3 => unfold maxLen; omega
  case c4 => omega
  case c5 => have := hb1.size; omega
  intro v' w2 hown' hgrow _
  have HK2 : Hid (Keeps w1 w2) := Lib.hid (Keeps.grown hown hgrow)
  have hb2 : w2.heap[b]? = some (.cells #[.pointer (some ⟨b, 0, none⟩), v] 60 (0, 0)) := by
    rw [hgrow.block b hlt (fun e => hne e.symm)]
    exact hbk
  have d0 : w2.cell? ⟨b, 0, none⟩ = some (.pointer (some ⟨b, 0, none⟩)) := by rw [Lib.cell_of_heap hb2]; rfl
  have d1 : w2.cell? ⟨b, 1, none⟩ = some v := by rw [Lib.cell_of_heap hb2]; rfl
  have f1 : w2.frozen? ⟨b, 1, none⟩ = false := Lib.frozen_of_heap hb2 1
  have hl2 : b < w2.heap.size := (Array.getElem?_eq_some_iff.1 hb2).1
  obtain ⟨ao, n', cap, rfl⟩ : ∃ ao n' cap, v' = .slice ao n' cap := by
    rcases hown'.2 with ⟨hv, _⟩ | ⟨g, cap, cur, hv, _⟩
    · exact ⟨_, _, _, hv⟩
    · exact ⟨_, _, _, hv⟩
  go_wp2
  go_ret2
  refine ⟨rfl, ?_, ?_, (HK.out.trans HK2.out).trans (Keeps.set hb2)⟩
  · exact Lib.BuilderAt.put (T := 60) (e := 5) hB hb2 (bs' := bs ++ Lib.strCells s) (by simpa [Lib.strCells_length] using hown') Tryz.Builder_Extra_169.neB5
  · exact (hb1.grown hgrow (by have := hb1.size; omega) (fun k hk => (hown.lt k hk).1)).setCell (p := ⟨b, 1, none⟩) hB _
theorem bldAt_mono {T e : TypeId} {B b : Nat} {p : Value} {bs : List Value} {w w' : World} (h : Lib.BuilderAt T e B b p bs w) (hb : Below w.heap.size w w') : Lib.BuilderAt T e B b p bs w' := by
  obtain ⟨hB, v, hbk, hown, hne⟩ := h
  exact ⟨hB, v, (hb.block b (Array.getElem?_eq_some_iff.1 hbk).1).trans hbk, World.ownsRow.kept hown (row := none) ⟨hb.os, hb.tape, hb.output, hb.size, fun k hk _ => hb.block k hk⟩ (by cases v.ownBlock <;> simp), hne⟩
theorem isBld_mono {T e : TypeId} {B b : Nat} {bs : List Value} {w w' : World} (h : Lib.IsBuilder T e B b bs w) (hb : Below w.heap.size w w') : Lib.IsBuilder T e B b bs w' := h.imp (fun h => bldAt_mono h hb) (fun h => bldAt_mono h hb)
def BldL (b : Nat) (l : List UInt8) (w : World) : Prop := Lib.IsBuilder 60 5 b b (Lib.byteCells l) w
theorem BldL.lt {b : Nat} {l : List UInt8} {w : World} (h : BldL b l w) : b < w.heap.size := by
  rcases h with ⟨_, v, hb, _⟩ | ⟨_, v, hb, _⟩
  · exact (Array.getElem?_eq_some_iff.1 hb).1
  · exact (Array.getElem?_eq_some_iff.1 hb).1
theorem BldL.mono {b : Nat} {l : List UInt8} {w w' : World} (h : BldL b l w) (hb : Below w.heap.size w w') : BldL b l w' := isBld_mono h hb
theorem wrK {b : Nat} {l : List UInt8} {w : World} (s : ByteArray) (h : BldL b l w) (hl : l.length + s.size ≤ 140737488355328) :
    Calls Tryz.prog 30 #[.pointer (some ⟨b, 0, none⟩), .string s] w fun e w' => e = .returned (.tuple #[.int .i64 s.size, .nilIface]) ∧ BldL b (l ++ toL s) w' ∧ Below b w w' ∧ Keeps w w' := by
  refine (writeStringK b b _ s w h (by rw [Lib.byteCells_length]; omega) (Nat.le_of_lt h.lt)).mono fun e w' ⟨h1, h2, h3⟩ => ⟨h1, Or.inr ?_, h3⟩
  rw [Lib.byteCells_append]
  exact h2
end Go.Proofs.YtlcdnkloijehjaaGreatDoor
