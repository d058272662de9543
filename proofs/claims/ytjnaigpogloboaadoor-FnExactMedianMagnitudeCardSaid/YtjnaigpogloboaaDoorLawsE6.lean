/-
  The law of MedianMagnitude: walked. (Printed by laws_E5.py.)
-/
import Derived.Test.YtjnaigpogloboaaDoorMedI
import Derived.Test.YtjnaigpogloboaaDoorMedS
import Derived.Deep.RegionHeld3
namespace Go.Proofs.YtjnaigpogloboaaDoor
set_option linter.unusedVariables false
open Go.RowKit

set_option maxRecDepth 100000 in
set_option maxHeartbeats 2000000 in
theorem law_MedianMagnitude (A0 : Option Addr) (c0 : Nat) (l0 : List TableRow) (A1 : Option Addr) (c1 : Nat) (l1 : List Swing) (w : World) (h0 : Rd encT 2 w w.heap.size A0 l0) (m0 : l0.length ≤ maxLen) (h1 : Rd encS 4 w w.heap.size A1 l1) (m1 : l1.length ≤ maxLen) (HP : Pow10 w) :
    Calls Tryd.prog 7 #[.slice A0 l0.length c0, .slice A1 l1.length c1] w fun e w' => e = .returned (.bool true) ∧ Below w.heap.size w w' := by
  unfold maxLen at m0
  unfold maxLen at m1
  by_cases hl0 : (l0.length : Int) ≤ (1048576)
  rotate_left
  · have hsz0 : szRes (1048576) l0.length = -1 := by unfold szRes; rw [if_pos (by omega)]
    go_enter Tryd.func7, Tryd.ntmps7
    go_wp2_with fail
    refine (szTS_any _ _ _ _ _ (by omega) (by omega) (by omega)).mono ?_
    rintro e w' ⟨rfl, rfl⟩
    rw [hsz0]
    go_wp2
    go_ret
    exact ⟨rfl, Below.refl _ _⟩
  by_cases hl1 : (l1.length : Int) ≤ (1048576 - (l0.length : Int))
  rotate_left
  · have hsz1 : szRes (1048576 - (l0.length : Int)) l1.length = -1 := by unfold szRes; rw [if_pos (by omega)]
    have hsz0 : szRes (1048576) l0.length = (1048576) - (l0.length : Int) := by unfold szRes; rw [if_neg (by omega)]
    go_enter Tryd.func7, Tryd.ntmps7
    go_wp2_with fail
    refine (szTS_any _ _ _ _ _ (by omega) (by omega) (by omega)).mono ?_
    rintro e w' ⟨rfl, rfl⟩
    rw [hsz0]
    go_wp2_with fail
    refine (szSS_any _ _ _ _ _ (by omega) (by omega) (by omega)).mono ?_
    rintro e w' ⟨rfl, rfl⟩
    rw [hsz1]
    go_wp2
    go_ret
    exact ⟨rfl, Below.refl _ _⟩
  · have hB0 : Below w.heap.size w w := by (repeat (first | with_reducible exact Below.refl _ _ | with_reducible assumption | with_reducible refine Below.setCell ?_ (by simp <;> omega) _ | with_reducible refine Below.alloc ?_ (by first | omega | (simp <;> omega)) _ | with_reducible refine Below.drew ?_ | with_reducible refine below_drewN ?_ _))
    have hsz0 : szRes (1048576) l0.length = (1048576) - (l0.length : Int) := by unfold szRes; rw [if_neg (by omega)]
    have hn0 : l0.length ≤ 1048576 := by omega
    have hr0 := (h0.below hB0).more hB0.size
    have hsz1 : szRes (1048576 - (l0.length : Int)) l1.length = (1048576 - (l0.length : Int)) - (l1.length : Int) := by unfold szRes; rw [if_neg (by omega)]
    have hn1 : l1.length ≤ 1048576 := by omega
    have hr1 := (h1.below hB0).more hB0.size
    go_enter Tryd.func7, Tryd.ntmps7
    go_wp2_with fail
    refine (szTS_any _ _ _ _ _ (by omega) (by omega) (by omega)).mono ?_
    rintro e w' ⟨rfl, rfl⟩
    rw [hsz0]
    go_wp2_with fail
    refine (szSS_any _ _ _ _ _ (by omega) (by omega) (by omega)).mono ?_
    rintro e w' ⟨rfl, rfl⟩
    rw [hsz1]
    clear hsz0 hsz1
    go_wp2_with fail
    refine (toTS_at _ _ l0 _ hr0 hn0).mono ?_
    rintro e w1 ⟨B0s, d0s, rfl, k0s, o0s, _, hb1⟩
    have hs1 := hb1.size
    have hB1 := hB0.trans (hb1.mono hB0.size)
    have hw1 := hB1.size
    have to0s := o0s.lt
    go_wp2_with fail
    refine (toSS_at _ _ l1 _ ((h1.below hB1).more hB1.size) hn1).mono ?_
    rintro e w2 ⟨B1s, d1s, rfl, k1s, o1s, _, hb2⟩
    have hs2 := hb2.size
    have hB2 := hB1.trans (hb2.mono hB1.size)
    have hw2 := hB2.size
    have o0s_2 := o0s.keep hb2
    clear o0s
    have to1s := o1s.lt
    go_wp2_with fail
    refine (sMedianMagnitude_any B0s B1s d0s d1s l0 l1 _ (Own.rd' encT_len o0s_2) (Own.rd' encS_len o1s) hn0 hn1).mono ?_
    rintro e w3 ⟨rfl, hb3⟩
    have hs3 := hb3.size
    have hB3 := hB2.trans (hb3.mono hB2.size)
    have hw3 := hB3.size
    have o0s_3 := o0s_2.keep hb3
    clear o0s_2
    have o1s_3 := o1s.keep hb3
    clear o1s
    go_wp2_with fail
    refine (toTS_at _ _ l0 _ ((h0.below hB3).more hB3.size) hn0).mono ?_
    rintro e w4 ⟨B0i, d0i, rfl, k0i, o0i, _, hb4⟩
    have hs4 := hb4.size
    have hB4 := hB3.trans (hb4.mono hB3.size)
    have hw4 := hB4.size
    have o0s_4 := o0s_3.keep hb4
    clear o0s_3
    have o1s_4 := o1s_3.keep hb4
    clear o1s_3
    have to0i := o0i.lt
    go_wp2_with fail
    refine (toSS_at _ _ l1 _ ((h1.below hB4).more hB4.size) hn1).mono ?_
    rintro e w5 ⟨B1i, d1i, rfl, k1i, o1i, _, hb5⟩
    have hs5 := hb5.size
    have hB5 := hB4.trans (hb5.mono hB4.size)
    have hw5 := hB5.size
    have o0s_5 := o0s_4.keep hb5
    clear o0s_4
    have o1s_5 := o1s_4.keep hb5
    clear o1s_4
    have o0i_5 := o0i.keep hb5
    clear o0i
    have to1i := o1i.lt
    go_wp2_with fail
    refine (MedianMagnitude_any B0i B1i d0i d1i l0 l1 _ (Own.rd' encT_len o0i_5) (Own.rd' encS_len o1i) hn0 hn1 (HP.after hB5 (Nat.le_refl _))).mono ?_
    rintro e w6 ⟨rfl, hb6⟩
    have hs6 := hb6.size
    have hB6 := hB5.trans (hb6.mono hB5.size)
    have hw6 := hB6.size
    have o0s_6 := o0s_5.keep hb6
    clear o0s_5
    have o1s_6 := o1s_5.keep hb6
    clear o1s_5
    have o0i_6 := o0i_5.keep hb6
    clear o0i_5
    have o1i_6 := o1i.keep hb6
    clear o1i
    go_wp2_with fail
    refine (toTS_at _ _ l0 _ ((h0.below hB6).more hB6.size) hn0).mono ?_
    rintro e w7 ⟨B0e0, d0e0, rfl, k0e0, o0e0, _, hb7⟩
    have hs7 := hb7.size
    have hB7 := hB6.trans (hb7.mono hB6.size)
    have hw7 := hB7.size
    have o0s_7 := o0s_6.keep hb7
    clear o0s_6
    have o1s_7 := o1s_6.keep hb7
    clear o1s_6
    have o0i_7 := o0i_6.keep hb7
    clear o0i_6
    have o1i_7 := o1i_6.keep hb7
    clear o1i_6
    have to0e0 := o0e0.lt
    go_wp2_with fail
    refine (eqTS_any _ _ _ _ l0 l0 _ (Own.rd' encT_len o0i_7) (Own.rd' encT_len o0e0) hn0).mono ?_
    rintro e w8 ⟨rfl, hb8⟩
    have hs8 := hb8.size
    have hB8 := hB7.trans (hb8.mono hB7.size)
    have hw8 := hB8.size
    have o0s_8 := o0s_7.keep hb8
    clear o0s_7
    have o1s_8 := o1s_7.keep hb8
    clear o1s_7
    have o0i_8 := o0i_7.keep hb8
    clear o0i_7
    have o1i_8 := o1i_7.keep hb8
    clear o1i_7
    have o0e0_8 := o0e0.keep hb8
    clear o0e0
    rw [eqsT_iff.2 rfl]
    clear o0e0_8
    go_wp2_with fail
    refine (toSS_at _ _ l1 _ ((h1.below hB8).more hB8.size) hn1).mono ?_
    rintro e w9 ⟨B1e0, d1e0, rfl, k1e0, o1e0, _, hb9⟩
    have hs9 := hb9.size
    have hB9 := hB8.trans (hb9.mono hB8.size)
    have hw9 := hB9.size
    have o0s_9 := o0s_8.keep hb9
    clear o0s_8
    have o1s_9 := o1s_8.keep hb9
    clear o1s_8
    have o0i_9 := o0i_8.keep hb9
    clear o0i_8
    have o1i_9 := o1i_8.keep hb9
    clear o1i_8
    have to1e0 := o1e0.lt
    go_wp2_with fail
    refine (eqSS_any _ _ _ _ l1 l1 _ (Own.rd' encS_len o1i_9) (Own.rd' encS_len o1e0) hn1).mono ?_
    rintro e w10 ⟨rfl, hb10⟩
    have hs10 := hb10.size
    have hB10 := hB9.trans (hb10.mono hB9.size)
    have hw10 := hB10.size
    have o0s_10 := o0s_9.keep hb10
    clear o0s_9
    have o1s_10 := o1s_9.keep hb10
    clear o1s_9
    have o0i_10 := o0i_9.keep hb10
    clear o0i_9
    have o1i_10 := o1i_9.keep hb10
    clear o1i_9
    have o1e0_10 := o1e0.keep hb10
    clear o1e0
    rw [eqsS_iff.2 rfl]
    clear o1e0_10
    go_wp2
    go_ret
    exact ⟨rfl, hB10⟩

end Go.Proofs.YtjnaigpogloboaaDoor
