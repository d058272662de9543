/-
  The law of LeastWidth: walked. (Printed by laws.)
-/
import Derived.Test.YtjnaigpogloboaaDoorLeast
namespace Go.Proofs.YtjnaigpogloboaaDoor
set_option linter.unusedVariables false
open Go.RowKit

theorem law_LeastWidth (A0 : Option Addr) (c0 : Nat) (l0 : List TableRow) (a1 : Int) (a2 : Int) (w : World) (h0 : Rd encT 2 w w.heap.size A0 l0) (m0 : l0.length ≤ maxLen) (wf1 : (Lit.int .i64 a1).wf = true) (wf2 : (Lit.int .i64 a2).wf = true) (HP : Pow10 w) :
    Calls Tryd.prog 5 #[.slice A0 l0.length c0, .int .i64 a1, .int .i64 a2] w fun e w' => e = .returned (.bool true) ∧ Below w.heap.size w w' := by
  unfold maxLen at m0
  by_cases hl0 : (l0.length : Int) ≤ (1048576)
  rotate_left
  · have hsz0 : szRes (1048576) l0.length = -1 := by unfold szRes; rw [if_pos (by omega)]
    go_enter Tryd.func5, Tryd.ntmps5
    go_wp2_with fail
    refine (szTS_any _ _ _ _ _ (by omega) (by omega) (by omega)).mono ?_
    rintro e w' ⟨rfl, rfl⟩
    rw [hsz0]
    go_wp2
    go_ret
    exact ⟨rfl, Below.refl _ _⟩
  · have hB0 := Below.refl w.heap.size w
    have hsz0 : szRes (1048576) l0.length = (1048576) - (l0.length : Int) := by unfold szRes; rw [if_neg (by omega)]
    have hn0 : l0.length ≤ 1048576 := by omega
    go_enter Tryd.func5, Tryd.ntmps5
    go_wp2_with fail
    refine (szTS_any _ _ _ _ _ (by omega) (by omega) (by omega)).mono ?_
    rintro e w' ⟨rfl, rfl⟩
    rw [hsz0]
    clear hsz0
    go_wp2_with fail
    refine (toTS_at _ _ l0 _ h0 hn0).mono ?_
    rintro e w1 ⟨B0s, d0s, rfl, k0s, o0s, r0s, hb1⟩
    have hB1 := hB0.trans (hb1.mono hB0.size)
    have h0_1 := h0.after hb1
    go_wp2_with fail
    refine (sLeastWidth_any B0s d0s l0 a1 a2 _ r0s hn0).mono ?_
    rintro e w2 ⟨rfl, hb2⟩
    have hB2 := hB1.trans (hb2.mono hB1.size)
    have h0_2 := h0_1.after hb2
    have r0s_2 := r0s.after hb2
    go_wp2_with fail
    refine (toTS_at _ _ l0 _ h0_2 hn0).mono ?_
    rintro e w3 ⟨B0i, d0i, rfl, k0i, o0i, r0i, hb3⟩
    have hB3 := hB2.trans (hb3.mono hB2.size)
    have h0_3 := h0_2.after hb3
    have r0s_3 := r0s_2.after hb3
    go_wp2_with fail
    refine (LeastWidth_any B0i d0i l0 a1 a2 _ r0i hn0 (HP.after hB3 (Nat.le_refl _))).mono ?_
    rintro e w4 ⟨rfl, hb4⟩
    have hB4 := hB3.trans (hb4.mono hB3.size)
    have h0_4 := h0_3.after hb4
    have r0s_4 := r0s_3.after hb4
    have r0i_4 := r0i.after hb4
    go_wp2_with fail
    refine (toTS_at _ _ l0 _ h0_4 hn0).mono ?_
    rintro e w5 ⟨B0e, d0e, rfl, k0e, o0e, r0e, hb5⟩
    have hB5 := hB4.trans (hb5.mono hB4.size)
    have h0_5 := h0_4.after hb5
    have r0s_5 := r0s_4.after hb5
    have r0i_5 := r0i_4.after hb5
    go_wp2_with fail
    refine (eqTS_any _ _ _ _ l0 l0 _ r0i_5 r0e hn0).mono ?_
    rintro e w6 ⟨rfl, hb6⟩
    have hB6 := hB5.trans (hb6.mono hB5.size)
    have h0_6 := h0_5.after hb6
    have r0s_6 := r0s_5.after hb6
    have r0i_6 := r0i_5.after hb6
    have r0e_6 := r0e.after hb6
    rw [eqsT_iff.2 rfl]
    go_wp2
    go_ret
    exact ⟨rfl, hB6⟩

end Go.Proofs.YtjnaigpogloboaaDoor
