/-
  Contracts of TurningPoints. (Printed by gen_F7.py.)
-/
import Derived.Test.YtabnnkallgcmgaaEvM
namespace Go.Proofs.Ytabnnkallgcmgaa
set_option linter.unusedVariables false
open Go.RowKit

def tpP (l : List Int) (i : Nat) : Bool := decide (1 ≤ i ∧ i + 1 < l.length) && ((decide (l.getD (i - 1) 0 < l.getD i 0) && decide (l.getD (i + 1) 0 < l.getD i 0)) || (decide (l.getD i 0 < l.getD (i - 1) 0) && decide (l.getD i 0 < l.getD (i + 1) 0)))
def tpR (l : List Int) (k : Nat) : List Int := ((List.range k).filter (tpP l)).map fun i : Nat => (i : Int)
def tpL (l : List Int) : List Int := if goodS l then tpR l l.length else []
theorem tpR_len (l : List Int) (k : Nat) : (tpR l k).length ≤ k := by unfold tpR; rw [List.length_map]; exact Nat.le_trans (List.length_filter_le ..) (by simp)
theorem tpL_len {l : List Int} : (tpL l).length ≤ 1048576 := by
  unfold tpL
  split
  · rename_i h
    have := (goodS_iff.1 h).1
    have := tpR_len l l.length
    omega
  · simp
theorem tpR_succ (l : List Int) (k : Nat) : tpR l (k + 1) = if tpP l k then tpR l k ++ [(k : Int)] else tpR l k := by
  unfold tpR
  rw [List.range_succ, List.filter_append, List.map_append]
  cases h : tpP l k <;> simp [h]
theorem tpP_no {l : List Int} {i : Nat} (h : i = 0 ∨ l.length ≤ i + 1) : tpP l i = false := by
  unfold tpP
  rw [decide_eq_false (by omega)]
  rfl
theorem tpR_more (l : List Int) (k : Nat) (h : l.length ≤ k + 1) : ∀ j, tpR l (k + j) = tpR l k := by
  intro j
  induction j with
  | zero => rfl
  | succ j ih => rw [← Nat.add_assoc, tpR_succ, tpP_no (.inr (by omega)), ih]; simp
theorem tpR_end (l : List Int) (k : Nat) (h : l.length ≤ k + 1) : tpR l l.length = tpR l k := by
  rw [← tpR_more l k h l.length, ← tpR_more l l.length (by omega) k, Nat.add_comm]
theorem tpR_one (l : List Int) : tpR l 1 = [] := by
  have := tpR_succ l 0
  rw [tpP_no (.inl rfl)] at this
  simpa [tpR] using this
theorem tpP_at {l : List Int} {k : Nat} (h : k + 2 < l.length) : tpP l (k + 1) = ((decide ((l[k]'(by omega)) < (l[k + 1]'(by omega))) && decide (l[k + 2] < (l[k + 1]'(by omega)))) || (decide ((l[k + 1]'(by omega)) < (l[k]'(by omega))) && decide ((l[k + 1]'(by omega)) < l[k + 2]))) := by
  unfold tpP
  rw [decide_eq_true (by omega), getD_at (show k + 1 < l.length by omega), getD_at (show k + 1 + 1 < l.length by omega), show k + 1 - 1 = k by omega, getD_at (show k < l.length by omega)]
  rfl

set_option maxRecDepth 100000 in
set_option maxHeartbeats 2000000 in
theorem TurningPoints_any (A : Option Addr) (c : Nat) (l : List Int) (w : World) (h : Rd encI 1 w w.heap.size A l) (hl : l.length ≤ 1048576) :
    Calls Try.prog 42 #[.slice A l.length c] w fun e w' => ∃ A' c', e = .returned (.tuple #[.slice A' (tpL l).length c', .bool (goodS l)]) ∧ ((tpL l).length ≤ c' ∧ c' ≤ maxLen) ∧ Own encI 1 w' w.heap.size 3 (.slice A' (tpL l).length c') (tpL l) ∧ Below w.heap.size w w' := by
  have HG := Lib.hid (areSamples_any A c l w h hl)
  cases hk : goodS l with
  | false =>
    have hm0 : tpL l = [] := by unfold tpL; rw [hk]; rfl
    rw [hm0]
    go_enter Try.func42, Try.ntmps42
    go_wp2_with (go_at_call 46; refine HG.out.mono ?_; rintro e w1 ⟨rfl, hb1⟩; rw [hk])
    go_ret2
    exact ⟨none, 0, rfl, ⟨Nat.le_refl _, Nat.zero_le _⟩, Own.none_ _ _ _, hb1⟩
  | true =>
    obtain ⟨hl24, hsm⟩ := goodS_iff.1 hk
    obtain ⟨i0, hi, hz0, hz1, hz2⟩ := info_parts infoI
    have hMv : tpL l = tpR l l.length := by unfold tpL; rw [if_pos hk]
    obtain ⟨M, hM⟩ : ∃ M, tpL l = M := ⟨_, rfl⟩
    rw [hM] at hMv ⊢
    have HM := Lib.hid hMv
    clear hM hMv
    go_enter Try.func42, Try.ntmps42
    go_wp2_with fail
    refine HG.out.mono ?_
    rintro e w1 ⟨rfl, hb1⟩
    rw [hk]
    have hs1 := hb1.size
    have hb0' : Below w.heap.size w (w1.alloc (.cells #[] 3)) := by (repeat (first | with_reducible exact Below.refl _ _ | with_reducible assumption | with_reducible refine Below.setCell ?_ (by simp <;> omega) _ | with_reducible refine Below.alloc ?_ (by first | omega | (simp <;> omega)) _ | with_reducible refine Below.drew ?_ | with_reducible refine below_drewN ?_ _))
    have Ho := Lib.hid (Own.empty (enc := encI) (k := 1) w1 w.heap.size 3 hs1)
    go_wp2
    go_loopw [4, 5] (fun v i wr => ∃ k : Nat, (k + 1 < l.length ∨ k ≤ l.length) ∧ i = .int .i64 ((k : Int) + 1) ∧ Hid (Own encI 1 wr w.heap.size 3 v (tpR l (k + 1))) ∧ Below w.heap.size w wr) (fun _ i _ => l.length + 1 - (intOf i).toNat)
    case atStart => exact ⟨0, .inr (Nat.zero_le _), rfl, by rw [tpR_one]; exact Ho.out, hb0'⟩
    case round =>
      obtain ⟨k, hkl, rfl, hown, hbl⟩ := hrel
      obtain ⟨wo, rfl⟩ : ∃ wo : World, wo = wr := ⟨_, rfl⟩
      by_cases hlt : k + 2 < l.length
      · have hnx := tpR_succ l (k + 1)
        have htp := tpP_at hlt
        have hfl : (tpR l (k + 1)).length ≤ 1048576 := by have := tpR_len l (k + 1); omega
        obtain ⟨M2, hM2⟩ : ∃ M2, tpR l (k + 1) = M2 := ⟨_, rfl⟩
        rw [hM2] at hnx hown hfl
        obtain ⟨B', d', rfl, hcd, _⟩ := Own.form encI_len hown.out
        have hsz := hbl.size
        have hrk := (h.below hbl).more hsz
        obtain ⟨b, off, rfl, hb, c0⟩ := cellsI hrk (show k < l.length by omega)
        obtain ⟨b2, off2, e2, _, c1⟩ := cellsI hrk (show k + 1 < l.length by omega)
        injection e2 with e2
        injection e2 with e3 e4
        subst e3 e4
        obtain ⟨b2, off2, e2, _, c2⟩ := cellsI hrk hlt
        injection e2 with e2
        injection e2 with e3 e4
        subst e3 e4
        generalize l[k] = a at *
        generalize l[k + 1] = x at *
        generalize l[k + 2] = d at *
        have hk0 : (0 : Int) ≤ (k : Int) := by omega
        have hk1 : (k : Int) < (l.length : Int) := by omega
        have hk2 : (k : Int) + 1 < (l.length : Int) := by omega
        have hk3 : (k : Int) + 2 < (l.length : Int) := by omega
        have hk4 : (k : Int) + 1 + 1 < (l.length : Int) := by omega
        have hwk := IntWalk.i64_in (k : Int) (by omega)
        have hwk1 := IntWalk.i64_in ((k : Int) + 1) (by omega)
        have hwk2 := IntWalk.i64_in ((k : Int) + 2) (by omega)
        clear hM2
        by_cases h1 : a < x
        · have h1' : ¬ x < a := by omega
          by_cases h2 : d < x
          · rw [if_pos (by rw [htp]; simp [h1, h2])] at hnx
            have Hnx := Lib.hid hnx
            clear hnx htp
            go_wp2_with fail
            go_quiet (fail)
            have hownq := Lib.hid (hown.out.keep (below_drewN (Below.refl wo.heap.size wo) nq))
            have hblq := below_drewN hbl nq
            have hszq := hblq.size
            generalize wo.drewN nq = wq at *
            go_wp2_with (at_builtin; refine wpList_app1 rfl _ _ 22 rfl w.heap.size 3 i0 _ 1 8 Try.underlying22 hi hz0 hz1 hz2 rfl (by omega) (by omega) encI encI_len encI_one (.slice B' M2.length d') M2 ((k : Int) + 1) wq _ rfl _ rfl hownq.out rfl hfl (by omega) ?_; intro v' w2 hown2 hb2 _)
            have Hown2 := Lib.hid hown2
            have hbl2 := hblq.trans hb2
            clear hown2 hb2
            go_wp2
            go_roundw
            case rel => exact ⟨k + 1, by omega, by go_num, by rw [Hnx.out]; exact Hown2.out, hbl2⟩
            case measure => simp [intOf]; omega
          · rw [if_neg (by rw [htp]; simp; omega)] at hnx
            have Hnx := Lib.hid hnx
            clear hnx htp
            go_wp2_with fail
            go_quiet (fail)
            have hownq := Lib.hid (hown.out.keep (below_drewN (Below.refl wo.heap.size wo) nq))
            have hblq := below_drewN hbl nq
            generalize wo.drewN nq = wq at *
            go_wp2
            go_roundw
            case rel => exact ⟨k + 1, by omega, by go_num, by rw [Hnx.out]; exact hownq.out, hblq⟩
            case measure => simp [intOf]; omega
        · by_cases h3 : x < a
          · by_cases h4 : x < d
            · rw [if_pos (by rw [htp]; simp [h3, h4])] at hnx
              have Hnx := Lib.hid hnx
              clear hnx htp
              go_wp2_with fail
              go_quiet (fail)
              have hownq := Lib.hid (hown.out.keep (below_drewN (Below.refl wo.heap.size wo) nq))
              have hblq := below_drewN hbl nq
              have hszq := hblq.size
              generalize wo.drewN nq = wq at *
              go_wp2_with (at_builtin; refine wpList_app1 rfl _ _ 22 rfl w.heap.size 3 i0 _ 1 8 Try.underlying22 hi hz0 hz1 hz2 rfl (by omega) (by omega) encI encI_len encI_one (.slice B' M2.length d') M2 ((k : Int) + 1) wq _ rfl _ rfl hownq.out rfl hfl (by omega) ?_; intro v' w2 hown2 hb2 _)
              have Hown2 := Lib.hid hown2
              have hbl2 := hblq.trans hb2
              clear hown2 hb2
              go_wp2
              go_roundw
              case rel => exact ⟨k + 1, by omega, by go_num, by rw [Hnx.out]; exact Hown2.out, hbl2⟩
              case measure => simp [intOf]; omega
            · rw [if_neg (by rw [htp]; simp; omega)] at hnx
              have Hnx := Lib.hid hnx
              clear hnx htp
              go_wp2_with fail
              go_quiet (fail)
              have hownq := Lib.hid (hown.out.keep (below_drewN (Below.refl wo.heap.size wo) nq))
              have hblq := below_drewN hbl nq
              generalize wo.drewN nq = wq at *
              go_wp2
              go_roundw
              case rel => exact ⟨k + 1, by omega, by go_num, by rw [Hnx.out]; exact hownq.out, hblq⟩
              case measure => simp [intOf]; omega
          · rw [if_neg (by rw [htp]; simp; omega)] at hnx
            have Hnx := Lib.hid hnx
            clear hnx htp
            go_wp2_with fail
            go_quiet (fail)
            have hownq := Lib.hid (hown.out.keep (below_drewN (Below.refl wo.heap.size wo) nq))
            have hblq := below_drewN hbl nq
            generalize wo.drewN nq = wq at *
            go_wp2
            go_roundw
            case rel => exact ⟨k + 1, by omega, by go_num, by rw [Hnx.out]; exact hownq.out, hblq⟩
            case measure => simp [intOf]; omega
      · have hke : tpR l l.length = tpR l (k + 1) := tpR_end l (k + 1) (by omega)
        have hown' : Own encI 1 wo w.heap.size 3 u4 M := by rw [HM.out, hke]; exact hown.out
        obtain ⟨B', d', e6, hcd, _⟩ := Own.form encI_len hown'
        subst e6
        have Hown := Lib.hid hown'
        have hk4 : ¬ (k : Int) + 1 + 1 < (l.length : Int) := by omega
        clear hown hown' hke
        go_wp2
        go_ret2
        exact ⟨_, _, rfl, hcd, Hown.out, hbl⟩

set_option maxRecDepth 100000 in
set_option maxHeartbeats 2000000 in
theorem sTurningPoints_any (A : Option Addr) (c : Nat) (l : List Int) (w : World) (h : Rd encI 1 w w.heap.size A l) (hl : l.length ≤ 1048576) :
    Calls Try.prog 43 #[.slice A l.length c] w fun e w' => ∃ A' c', e = .returned (.tuple #[.slice A' (tpL l).length c', .bool (goodS l)]) ∧ ((tpL l).length ≤ c' ∧ c' ≤ maxLen) ∧ Own encI 1 w' w.heap.size 3 (.slice A' (tpL l).length c') (tpL l) ∧ Below w.heap.size w w' := by
  have hb0' : Below w.heap.size w (w.alloc (.cells #[] 3)) := by (repeat (first | with_reducible exact Below.refl _ _ | with_reducible assumption | with_reducible refine Below.setCell ?_ (by simp <;> omega) _ | with_reducible refine Below.alloc ?_ (by first | omega | (simp <;> omega)) _ | with_reducible refine Below.drew ?_ | with_reducible refine below_drewN ?_ _))
  have hr0 := (h.below hb0').more hb0'.size
  have Ho := Lib.hid (Own.empty (enc := encI) (k := 1) w w.heap.size 3 (Nat.le_refl _))
  have HG := Lib.hid (l2Samples_any A c l _ _ hr0 hl)
  cases hk : goodS l with
  | false =>
    have hm0 : tpL l = [] := by unfold tpL; rw [hk]; rfl
    rw [hm0]
    go_enter Try.func43, Try.ntmps43
    go_wp2_with (go_at_call 51; refine HG.out.mono ?_; rintro e w1 ⟨rfl, rfl⟩; rw [hk])
    go_ret2
    exact ⟨_, 0, rfl, ⟨Nat.le_refl _, Nat.zero_le _⟩, Ho.out, hb0'⟩
  | true =>
    obtain ⟨hl24, hsm⟩ := goodS_iff.1 hk
    obtain ⟨i0, hi, hz0, hz1, hz2⟩ := info_parts infoI
    have hMv : tpL l = tpR l l.length := by unfold tpL; rw [if_pos hk]
    obtain ⟨M, hM⟩ : ∃ M, tpL l = M := ⟨_, rfl⟩
    rw [hM] at hMv ⊢
    have HM := Lib.hid hMv
    clear hM hMv
    go_enter Try.func43, Try.ntmps43
    go_wp2_with (go_at_call 51; refine HG.out.mono ?_; rintro e w1 ⟨rfl, rfl⟩; rw [hk])
    go_loopw [4, 5] (fun v i wr => ∃ k : Nat, (k + 1 < l.length ∨ k ≤ l.length) ∧ i = .int .i64 ((k : Int) + 1) ∧ Hid (Own encI 1 wr w.heap.size 3 v (tpR l (k + 1))) ∧ Below w.heap.size w wr) (fun _ i _ => l.length + 1 - (intOf i).toNat)
    case atStart => exact ⟨0, .inr (Nat.zero_le _), rfl, by rw [tpR_one]; exact Ho.out, hb0'⟩
    case round =>
      obtain ⟨k, hkl, rfl, hown, hbl⟩ := hrel
      obtain ⟨wo, rfl⟩ : ∃ wo : World, wo = wr := ⟨_, rfl⟩
      by_cases hlt : k + 2 < l.length
      · have hnx := tpR_succ l (k + 1)
        have htp := tpP_at hlt
        have hfl : (tpR l (k + 1)).length ≤ 1048576 := by have := tpR_len l (k + 1); omega
        obtain ⟨M2, hM2⟩ : ∃ M2, tpR l (k + 1) = M2 := ⟨_, rfl⟩
        rw [hM2] at hnx hown hfl
        obtain ⟨B', d', rfl, hcd, _⟩ := Own.form encI_len hown.out
        have hsz := hbl.size
        have hrk := (h.below hbl).more hsz
        obtain ⟨b, off, rfl, hb, c0⟩ := cellsI hrk (show k < l.length by omega)
        obtain ⟨b2, off2, e2, _, c1⟩ := cellsI hrk (show k + 1 < l.length by omega)
        injection e2 with e2
        injection e2 with e3 e4
        subst e3 e4
        obtain ⟨b2, off2, e2, _, c2⟩ := cellsI hrk hlt
        injection e2 with e2
        injection e2 with e3 e4
        subst e3 e4
        generalize l[k] = a at *
        generalize l[k + 1] = x at *
        generalize l[k + 2] = d at *
        have hk0 : (0 : Int) ≤ (k : Int) := by omega
        have hk1 : (k : Int) < (l.length : Int) := by omega
        have hk2 : (k : Int) + 1 < (l.length : Int) := by omega
        have hk3 : (k : Int) + 2 < (l.length : Int) := by omega
        have hk4 : (k : Int) + 1 + 1 < (l.length : Int) := by omega
        have hwk := IntWalk.i64_in (k : Int) (by omega)
        have hwk1 := IntWalk.i64_in ((k : Int) + 1) (by omega)
        have hwk2 := IntWalk.i64_in ((k : Int) + 2) (by omega)
        clear hM2
        by_cases h1 : a < x
        · have h1' : ¬ x < a := by omega
          by_cases h2 : d < x
          · rw [if_pos (by rw [htp]; simp [h1, h2])] at hnx
            have Hnx := Lib.hid hnx
            clear hnx htp
            go_wp2_with fail
            go_quiet (fail)
            have hownq := Lib.hid (hown.out.keep (below_drewN (Below.refl wo.heap.size wo) nq))
            have hblq := below_drewN hbl nq
            have hszq := hblq.size
            generalize wo.drewN nq = wq at *
            go_wp2_with (at_builtin; refine wpList_app1 rfl _ _ 22 rfl w.heap.size 3 i0 _ 1 8 Try.underlying22 hi hz0 hz1 hz2 rfl (by omega) (by omega) encI encI_len encI_one (.slice B' M2.length d') M2 ((k : Int) + 1) wq _ rfl _ rfl hownq.out rfl hfl (by omega) ?_; intro v' w2 hown2 hb2 _)
            have Hown2 := Lib.hid hown2
            have hbl2 := hblq.trans hb2
            clear hown2 hb2
            go_wp2
            go_roundw
            case rel => exact ⟨k + 1, by omega, by go_num, by rw [Hnx.out]; exact Hown2.out, hbl2⟩
            case measure => simp [intOf]; omega
          · rw [if_neg (by rw [htp]; simp; omega)] at hnx
            have Hnx := Lib.hid hnx
            clear hnx htp
            go_wp2_with fail
            go_quiet (fail)
            have hownq := Lib.hid (hown.out.keep (below_drewN (Below.refl wo.heap.size wo) nq))
            have hblq := below_drewN hbl nq
            generalize wo.drewN nq = wq at *
            go_wp2
            go_roundw
            case rel => exact ⟨k + 1, by omega, by go_num, by rw [Hnx.out]; exact hownq.out, hblq⟩
            case measure => simp [intOf]; omega
        · by_cases h3 : x < a
          · by_cases h4 : x < d
            · rw [if_pos (by rw [htp]; simp [h3, h4])] at hnx
              have Hnx := Lib.hid hnx
              clear hnx htp
              go_wp2_with fail
              go_quiet (fail)
              have hownq := Lib.hid (hown.out.keep (below_drewN (Below.refl wo.heap.size wo) nq))
              have hblq := below_drewN hbl nq
              have hszq := hblq.size
              generalize wo.drewN nq = wq at *
              go_wp2_with (at_builtin; refine wpList_app1 rfl _ _ 22 rfl w.heap.size 3 i0 _ 1 8 Try.underlying22 hi hz0 hz1 hz2 rfl (by omega) (by omega) encI encI_len encI_one (.slice B' M2.length d') M2 ((k : Int) + 1) wq _ rfl _ rfl hownq.out rfl hfl (by omega) ?_; intro v' w2 hown2 hb2 _)
              have Hown2 := Lib.hid hown2
              have hbl2 := hblq.trans hb2
              clear hown2 hb2
              go_wp2
              go_roundw
              case rel => exact ⟨k + 1, by omega, by go_num, by rw [Hnx.out]; exact Hown2.out, hbl2⟩
              case measure => simp [intOf]; omega
            · rw [if_neg (by rw [htp]; simp; omega)] at hnx
              have Hnx := Lib.hid hnx
              clear hnx htp
              go_wp2_with fail
              go_quiet (fail)
              have hownq := Lib.hid (hown.out.keep (below_drewN (Below.refl wo.heap.size wo) nq))
              have hblq := below_drewN hbl nq
              generalize wo.drewN nq = wq at *
              go_wp2
              go_roundw
              case rel => exact ⟨k + 1, by omega, by go_num, by rw [Hnx.out]; exact hownq.out, hblq⟩
              case measure => simp [intOf]; omega
          · rw [if_neg (by rw [htp]; simp; omega)] at hnx
            have Hnx := Lib.hid hnx
            clear hnx htp
            go_wp2_with fail
            go_quiet (fail)
            have hownq := Lib.hid (hown.out.keep (below_drewN (Below.refl wo.heap.size wo) nq))
            have hblq := below_drewN hbl nq
            generalize wo.drewN nq = wq at *
            go_wp2
            go_roundw
            case rel => exact ⟨k + 1, by omega, by go_num, by rw [Hnx.out]; exact hownq.out, hblq⟩
            case measure => simp [intOf]; omega
      · have hke : tpR l l.length = tpR l (k + 1) := tpR_end l (k + 1) (by omega)
        have hown' : Own encI 1 wo w.heap.size 3 u4 M := by rw [HM.out, hke]; exact hown.out
        obtain ⟨B', d', e6, hcd, _⟩ := Own.form encI_len hown'
        subst e6
        have Hown := Lib.hid hown'
        have hk4 : ¬ (k : Int) + 1 + 1 < (l.length : Int) := by omega
        clear hown hown' hke
        go_wp2
        go_ret2
        exact ⟨_, _, rfl, hcd, Hown.out, hbl⟩

end Go.Proofs.Ytabnnkallgcmgaa
