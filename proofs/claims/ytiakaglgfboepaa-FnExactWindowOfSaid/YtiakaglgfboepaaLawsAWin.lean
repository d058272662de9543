/-
  The law of WindowOf: walked. (Printed by laws_A2.py.)
-/
import Derived.Test.YtiakaglgfboepaaWindow
import Derived.Test.YtiakaglgfboepaaPickM
namespace Go.Proofs.Ytiakaglgfboepaa
set_option linter.unusedVariables false
open Go.RowKit

set_option maxRecDepth 100000 in
set_option maxHeartbeats 2000000 in
theorem law_WindowOf (A0 : Option Addr) (c0 : Nat) (l0 : List Pick) (a1 : Int) (w : World) (h0 : Rd encP 7 w w.heap.size A0 l0) (m0 : l0.length ≤ maxLen) (wf1 : (Lit.int .i64 a1).wf = true) :
    Calls Try.prog 6 #[.slice A0 l0.length c0, .int .i64 a1] w fun e w' => e = .returned (.bool true) ∧ Below w.heap.size w w' := by
  unfold maxLen at m0
  by_cases hl0 : (l0.length : Int) ≤ (1048576)
  rotate_left
  · have hsz0 : szRes (1048576) l0.length = -1 := by unfold szRes; rw [if_pos (by omega)]
    go_enter Try.func6, Try.ntmps6
    go_wp2_with fail
    refine (szPS_any _ _ _ _ _ (by omega) (by omega) (by omega)).mono ?_
    rintro e w' ⟨rfl, rfl⟩
    rw [hsz0]
    go_wp2
    go_ret
    exact ⟨rfl, Below.refl _ _⟩
  · have hB0 : Below w.heap.size w w := by (repeat (first | with_reducible exact Below.refl _ _ | with_reducible assumption | with_reducible refine Below.setCell ?_ (by simp <;> omega) _ | with_reducible refine Below.alloc ?_ (by first | omega | (simp <;> omega)) _ | with_reducible refine Below.drew ?_ | with_reducible refine below_drewN ?_ _))
    have hsz0 : szRes (1048576) l0.length = (1048576) - (l0.length : Int) := by unfold szRes; rw [if_neg (by omega)]
    have hn0 : l0.length ≤ 1048576 := by omega
    have hr0 := (h0.below hB0).more hB0.size
    go_enter Try.func6, Try.ntmps6
    go_wp2_with fail
    refine (szPS_any _ _ _ _ _ (by omega) (by omega) (by omega)).mono ?_
    rintro e w' ⟨rfl, rfl⟩
    rw [hsz0]
    clear hsz0
    go_wp2_with fail
    refine (toPS_at _ _ l0 _ hr0 hn0).mono ?_
    rintro e w1 ⟨B0s, d0s, rfl, k0s, o0s, _, hb1⟩
    have hs1 := hb1.size
    have hB1 := hB0.trans (hb1.mono hB0.size)
    have hw1 := hB1.size
    have to0s := o0s.lt
    go_wp2_with fail
    refine (sWindowOf_any B0s d0s l0 _ (Own.rd' encP_len o0s) hn0 k0s a1).mono ?_
    rintro e w2 ⟨rfl, hb2⟩
    have hs2 := hb2.size
    have hB2 := hB1.trans (hb2.mono hB1.size)
    have hw2 := hB2.size
    have o0s_2 := o0s.keep hb2
    clear o0s
    go_wp2_with fail
    refine (toPS_at _ _ l0 _ ((h0.below hB2).more hB2.size) hn0).mono ?_
    rintro e w3 ⟨B0i, d0i, rfl, k0i, o0i, _, hb3⟩
    have hs3 := hb3.size
    have hB3 := hB2.trans (hb3.mono hB2.size)
    have hw3 := hB3.size
    have o0s_3 := o0s_2.keep hb3
    clear o0s_2
    have to0i := o0i.lt
    go_wp2_with fail
    refine (WindowOf_any B0i d0i l0 _ (Own.rd' encP_len o0i) hn0 k0i a1).mono ?_
    rintro e w4 ⟨rfl, hb4⟩
    have hs4 := hb4.size
    have hB4 := hB3.trans (hb4.mono hB3.size)
    have hw4 := hB4.size
    have o0s_4 := o0s_3.keep hb4
    clear o0s_3
    have o0i_4 := o0i.keep hb4
    clear o0i
    go_wp2_with fail
    refine (toPS_at _ _ l0 _ ((h0.below hB4).more hB4.size) hn0).mono ?_
    rintro e w5 ⟨B0e0, d0e0, rfl, k0e0, o0e0, _, hb5⟩
    have hs5 := hb5.size
    have hB5 := hB4.trans (hb5.mono hB4.size)
    have hw5 := hB5.size
    have o0s_5 := o0s_4.keep hb5
    clear o0s_4
    have o0i_5 := o0i_4.keep hb5
    clear o0i_4
    have to0e0 := o0e0.lt
    go_wp2_with fail
    refine (eqPS_any _ _ _ _ l0 l0 _ (Own.rd' encP_len o0i_5) (Own.rd' encP_len o0e0) hn0).mono ?_
    rintro e w6 ⟨rfl, hb6⟩
    have hs6 := hb6.size
    have hB6 := hB5.trans (hb6.mono hB5.size)
    have hw6 := hB6.size
    have o0s_6 := o0s_5.keep hb6
    clear o0s_5
    have o0i_6 := o0i_5.keep hb6
    clear o0i_5
    have o0e0_6 := o0e0.keep hb6
    clear o0e0
    rw [eqsP_iff.2 rfl]
    clear o0e0_6
    go_wp2
    go_ret
    exact ⟨rfl, hB6⟩

end Go.Proofs.Ytiakaglgfboepaa
