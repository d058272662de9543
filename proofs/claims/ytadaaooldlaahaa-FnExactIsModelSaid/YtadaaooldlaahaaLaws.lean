/-
  The laws of the exported functions over models of the earth: walked.
-/
import Derived.Test.YtadaaooldlaahaaModel
namespace Go.Proofs.Ytadaaooldlaahaa
set_option linter.unusedVariables false
open Go.RowKit

theorem law_IsModel (A : Option Addr) (c : Nat) (l : List Earth) (w : World) (h : Rd encE 2 w w.heap.size A l) (hm : l.length ≤ maxLen) :
    Calls Try.prog 3 #[.slice A l.length c] w fun e w' => e = .returned (.bool true) ∧ Below w.heap.size w w' := by
  unfold maxLen at hm
  by_cases hl : l.length ≤ 1048576
  · have hsz : szRes 1048576 l.length = 1048576 - (l.length : Int) := by unfold szRes; rw [if_neg (by omega)]
    go_enter Try.func3, Try.ntmps3
    go_wp2_with fail
    refine (szES_any _ _ _ _ _ (by omega) (by omega) (by omega)).mono ?_
    rintro e w0 ⟨rfl, rfl⟩
    rw [hsz]
    clear hsz
    go_wp2_with fail
    refine (toES_at _ _ l _ h hl).mono ?_
    rintro e w1 ⟨A1, c1, rfl, ho1, hr1, hb1⟩
    go_wp2_with fail
    refine (sIsModel_any _ _ l _ _ hr1 hl).mono ?_
    rintro e w1' ⟨rfl, rfl⟩
    go_wp2_with fail
    refine (toES_at _ _ l _ (h.after hb1) hl).mono ?_
    rintro e w2 ⟨A2, c2, rfl, ho2, hr2, hb2⟩
    go_wp2_with fail
    refine (IsModel_any _ _ l _ hr2 hl).mono ?_
    rintro e w3 ⟨rfl, hb3⟩
    generalize goodE l = g
    go_wp2_with fail
    refine (toES_at _ _ l _ (((h.after hb1).after hb2).after hb3) hl).mono ?_
    rintro e w4 ⟨A4, c4, rfl, ho4, hr4, hb4⟩
    go_wp2_with fail
    refine (eqES_any _ _ _ _ l l _ ((hr2.after hb3).after hb4) hr4 hl).mono ?_
    rintro e w5 ⟨rfl, hb5⟩
    rw [eqsE_iff.2 rfl]
    go_wp2
    go_ret
    exact ⟨rfl, (((hb1.trans (hb2.mono hb1.size)).trans (hb3.mono (Nat.le_trans hb1.size hb2.size))).trans (hb4.mono (Nat.le_trans hb1.size (Nat.le_trans hb2.size hb3.size)))).trans (hb5.mono (Nat.le_trans hb1.size (Nat.le_trans hb2.size (Nat.le_trans hb3.size hb4.size))))⟩
  · have hsz : szRes 1048576 l.length = -1 := by unfold szRes; rw [if_pos (by omega)]
    go_enter Try.func3, Try.ntmps3
    go_wp2_with fail
    refine (szES_any _ _ _ _ _ (by omega) (by omega) (by omega)).mono ?_
    rintro e w0 ⟨rfl, rfl⟩
    rw [hsz]
    go_wp2
    go_ret
    exact ⟨rfl, Below.refl _ _⟩

end Go.Proofs.Ytadaaooldlaahaa
