/-
  Chapter 10: the reference's chains in a valid hierarchy, and the nearest declaration.
-/
import Derived.Test.YtafincpkehlcfaaDoorHierQ
namespace Go.Proofs.YtafincpkehlcfaaDoor
open Go.RowKit
set_option linter.unusedVariables false

set_option maxHeartbeats 1000000 in
theorem refIn_any (A : Option Addr) (c : Nat) (l : List ByteArray) (s : ByteArray) (w : World) (hl : l.length ≤ 8796093022208) (hs : Sl Lay.str w A l) :
    Calls Tryd.prog 44 #[.slice A l.length c, .string s] w fun e w' => e = .returned (.bool (hasS l s)) ∧ w = w' := by
  go_enter Tryd.func44, Tryd.ntmps44
  go_wp2_with fail
  go_loop [5] (fun i => ∃ k : Nat, k ≤ l.length ∧ i = .int .i64 k ∧ Hid (∀ i (hi : i < k) (hi2 : i < l.length), (l[i].toList == s.toList) = false)) (fun i => l.length - (intOf i).toNat)
  case atStart => exact ⟨0, Nat.zero_le _, rfl, fun i hi => by omega⟩
  case round =>
    obtain ⟨k, hk, rfl, HN⟩ := hrel
    by_cases hlt : k < l.length
    · obtain ⟨b, o, rfl, hb, d0⟩ := hs.str_at hlt
      cases hq : (l[k].toList == s.toList) with
      | true =>
        have HE := Lib.hid (hasS_at hlt hq)
        go_wp2_with fail
        go_ret
        exact ⟨by rw [HE.out]; rfl, rfl⟩
      | false =>
        have HE : Hid (∀ i (hi : i < k + 1) (hi2 : i < l.length), (l[i].toList == s.toList) = false) := fun i hi hi2 => by
          by_cases e : i = k
          · subst e; exact hq
          · exact HN.out i (by omega) hi2
        go_wp2_with fail
        go_round
        case rel => exact ⟨k + 1, by omega, by go_num, HE⟩
        case measure => simp [intOf]; omega
    · have HE := Lib.hid (hasS_none (l := l) (s := s) (fun i hi => HN.out i (by omega) hi))
      go_wp2_with fail
      go_ret
      exact ⟨by rw [HE.out]; rfl, rfl⟩
structure ChSt (cs : List Cls) (s t : ByteArray) (P Q : List Int) : Prop where
  all : up cs (fnd cs s) = P ++ Q
  path : Path (supI cs) (fnd cs t) Q
theorem ChSt.fin {cs : List Cls} {s t : ByteArray} {P Q : List Int} (h : ChSt cs s t P Q) (hn : ¬ 0 ≤ fnd cs t) : P.map (nmAt cs) = supersL cs s := by
  have := h.path
  cases this with
  | stop _ => have := h.all; rw [List.append_nil] at this; unfold supersL; rw [← this]; rfl
  | step h0 _ => exact absurd h0 hn
structure ChNx (cs : List Cls) (s t : ByteArray) (P : List Int) (n : Nat) (hn : n < cs.length) : Prop where
  name : cs[n].name = t
  new : hasS (P.map (nmAt cs)) t = false
  len : P.length < cs.length
  map : (P ++ [(n : Int)]).map (nmAt cs) = P.map (nmAt cs) ++ [t]
  last : cs[n].super.toList.isEmpty = true → P.map (nmAt cs) ++ [t] = supersL cs s
  more : cs[n].super.toList.isEmpty = false → ∃ Q, ChSt cs s cs[n].super (P ++ [(n : Int)]) Q
theorem ChSt.next {cs : List Cls} (hv : Valid cs) {s t : ByteArray} {P Q : List Int} (h : ChSt cs s t P Q) {n : Nat} (hn : n < cs.length) (he : fnd cs t = n) : ChNx cs s t P n hn := by
  have hp := h.path
  rw [he] at hp
  have hbd := chR_bd (cs := cs) (fnd_bd cs s).2
  have hall : (chR cs (fnd cs s)).1 = P ++ Q := h.all
  have hlen := chR_len (cs := cs) (fnd_bd cs s).2
  rw [hall] at hbd hlen
  have hname : cs[n].name = t := by
    have := nm_fnd (cs := cs) (s := t) (by omega)
    rw [he, nmAt_nat hn] at this; exact this
  cases hp with
  | stop h0 => omega
  | @step _ Q' h0 hp' =>
    rw [Int.toNat_natCast] at hp'
    have hmap : (P ++ [(n : Int)]).map (nmAt cs) = P.map (nmAt cs) ++ [t] := by rw [List.map_append, ← hname, List.map_cons, nmAt_nat hn]; rfl
    refine ⟨hname, ?_, ?_, hmap, ?_, ?_⟩
    · cases hq : hasS (P.map (nmAt cs)) t with
      | false => rfl
      | true =>
        rw [hasS_iff, hv.mem_names (fun x hx => hbd.1 x (by simp [hx])), he] at hq
        have := hbd.2
        rw [List.nodup_append] at this
        exact absurd rfl (this.2.2 _ hq (n : Int) (by simp))
    · rw [List.length_append, List.length_cons] at hlen; omega
    · intro hq
      rw [supI_at hn, if_pos hq] at hp'
      cases hp' with
      | stop _ => rw [← hmap]; unfold supersL; rw [hall]
      | step h1 _ => omega
    · intro hq
      rw [supI_at hn, if_neg (by rw [hq]; simp)] at hp'
      exact ⟨Q', by rw [h.all]; simp, hp'⟩

set_option maxRecDepth 100000 in
set_option maxHeartbeats 2000000 in
theorem refChain_any (A : Option Addr) (c : Nat) (cs : List Cls) (s : ByteArray) (w : World) (hl : cs.length ≤ 8796093022208) (hsl : Sl Lay.cls w A cs) (hv : Hid (Valid cs)) :
    Calls Tryd.prog 29 #[.agg #[.slice A cs.length c], .string s] w fun e w' => (∃ v, e = .returned (.tuple #[v, .bool false]) ∧ Own cellsStr 1 w.heap.size 9 w' v (supersL cs s)) ∧ Below w.heap.size w w' := by
  have hb0 : Below w.heap.size w (w.alloc (.cells #[.slice A cs.length c] 24)) := (by repeat (first | assumption | exact Below.refl _ _ | apply bw_alloc | apply bw_drew | apply bw_drewN | apply bw_later | apply bw_step))
  have bx := Box.new w [.slice A cs.length c] 24
  have HST : Hid (ChSt cs s s [] (up cs (fnd cs s))) := ⟨by simp, hv.out.path (fnd_bd cs s).2⟩
  go_enter Tryd.func29, Tryd.ntmps29
  go_wp2_with fail
  refine (refFind_any A c cs s _ hl (hsl.mono hb0)).mono ?_
  rintro e w1 ⟨rfl, hb1⟩
  have hbw1 := below_step hb0 hb1
  have bx1 := bx.mono hb1
  clear hb0 hb1 bx
  go_wp2_with fail
  go_loopw [1, 6, 7] (fun v1 v6 v7 wr => ∃ (t : ByteArray) (P Q : List Int), v1 = .string t ∧ v7 = .int .i64 (fnd cs t) ∧ Hid (ChSt cs s t P Q) ∧ P.length ≤ cs.length ∧ Own cellsStr 1 (w.heap.size + 1) 9 wr v6 (P.map (nmAt cs)) ∧ Box wr w.heap.size [.slice A cs.length c] 24 ∧ Below w.heap.size w wr) (fun v1 v6 v7 _ => cs.length - slLen v6)
  case atStart => exact ⟨s, [], _, rfl, rfl, HST, Nat.zero_le _, Own.nil, bx1, hbw1⟩
  case round =>
    clear HST bx1 hbw1
    obtain ⟨t, P, Q, rfl, rfl, HS, hPl, hown, bx, hbw⟩ := hrel
    have hfb := fnd_bd cs t
    have x0 := bx.cell 0 rfl
    have xl := bx.lt
    by_cases h0 : 0 ≤ fnd cs t
    · obtain ⟨n, hn⟩ : ∃ n : Nat, fnd cs t = n := ⟨(fnd cs t).toNat, by omega⟩
      have hnl : n < cs.length := by omega
      have HN := Lib.hid (HS.out.next hv.out hnl hn)
      rw [hn] at h0 hfb ⊢
      clear hn
      have hlen := HN.out.len
      have hpm : (P.map (nmAt cs)).length < cs.length := by rw [List.length_map]; exact hlen
      have HNEW := Lib.hid HN.out.new
      have HMAP := Lib.hid HN.out.map
      have HLAST := Lib.hid HN.out.last
      have HMORE := Lib.hid HN.out.more
      clear HN HS
      generalize P.map (nmAt cs) = N at *
      have HSL := Lib.hid hown.slLen
      obtain ⟨A6, c6, rfl, hc6, hs6⟩ := StrsV.of_own hown
      go_wp2_with fail
      refine (refIn_any A6 c6 N t _ (by omega) hs6).mono ?_
      rintro e w2 ⟨rfl, rfl⟩
      rw [HNEW.out]
      go_wp2_with (at_builtin; refine wpList_pushG strsTy cellsStr_ok rfl (.tmp 20) (.tmp 22) rfl (w.heap.size + 1) _ _ rfl (Own.alloc hown _) t _ _ rfl (cells_one_new _ _ _) (by unfold maxLen; omega) (by omega) ?_ ?_; (simp; omega); intro v3 w3 hown3 hb3 hg3; have bx3 := (bx.alloc (.cells #[.string t] 9)).below (by omega) hb3; have y0 := bx3.cell 0 rfl; have yl := bx3.lt; have hbw3 := (bw_alloc hbw).trans (hb3.mono (by omega)); obtain ⟨b0, o, A2, c2, A3, c3, rfl, hb, d0, d1, d2, d3, hc2, hs2, hc3, hs3⟩ := (hsl.mono hbw3).cls_at hnl; cases hq : cs[n].super.toList.isEmpty)
      · obtain ⟨Q', hQ⟩ := HMORE.out hq
        have HQ := Lib.hid hQ
        have HSL3 := Lib.hid hown3.slLen
        go_wp2_with fail
        refine (refFind_any _ c cs cs[n].super _ hl (hsl.mono hbw3)).mono ?_
        rintro e w4 ⟨rfl, hb4⟩
        go_wp2_with fail
        go_roundw
        case rel => exact ⟨_, P ++ [(n : Int)], Q', rfl, rfl, HQ, by rw [List.length_append]; simp; omega, by rw [HMAP.out]; exact hown3.mono hb4, bx3.mono hb4, below_step hbw3 hb4⟩
        case measure => rw [HSL.out, HSL3.out, List.length_append]; simp; omega
      · have HE := Lib.hid (HLAST.out hq)
        go_wp2_with fail
        go_ret2
        exact ⟨⟨_, rfl, by rw [← HE.out]; exact hown3.weaken (by omega)⟩, hbw3⟩
    · have HE := Lib.hid (HS.out.fin h0)
      go_wp2_with fail
      go_ret2
      exact ⟨⟨_, rfl, by rw [← HE.out]; exact hown.weaken (by omega)⟩, hbw⟩
theorem refSupers_any (A : Option Addr) (c : Nat) (cs : List Cls) (s : ByteArray) (w : World) (hl : cs.length ≤ 8796093022208) (hsl : Sl Lay.cls w A cs) (hv : Hid (Valid cs)) :
    Calls Tryd.prog 12 #[.agg #[.slice A cs.length c], .string s] w fun e w' => (∃ v, e = .returned v ∧ Own cellsStr 1 w.heap.size 9 w' v (supersL cs s)) ∧ Below w.heap.size w w' := by
  have hb0 : Below w.heap.size w (w.alloc (.cells #[.slice A cs.length c] 24)) := (by repeat (first | assumption | exact Below.refl _ _ | apply bw_alloc | apply bw_drew | apply bw_drewN | apply bw_later | apply bw_step))
  go_enter Tryd.func12, Tryd.ntmps12
  go_wp2_with fail
  refine (refChain_any A c cs s _ hl (hsl.mono hb0) hv).mono ?_
  rintro e w1 ⟨⟨v, rfl, hown⟩, hb1⟩
  go_wp2_with fail
  go_ret
  exact ⟨⟨_, rfl, hown.weaken hb0.size⟩, below_step hb0 hb1⟩
end Go.Proofs.YtafincpkehlcfaaDoor
