/-
  The text of a magnitude: numerals up to 20.
-/
import Derived.Test.YtjnaigpogloboaaDoorSizeOf
import Derived.Deep.QuietTactic
namespace Go.Proofs.YtjnaigpogloboaaDoor
set_option linter.unusedVariables false
open Go.RowKit Go.Sort

theorem l1Num_one (n : Nat) (hn : n < 10) (W : World) :
    Calls Tryd.prog 62 #[.int .i64 n] W fun e w' => e = .returned (.string ⟨(Lib.decDigits n).toArray⟩) ∧ W = w' := by
  rw [Lib.decDigits_one hn]
  have hc : n = 0 ∨ n = 1 ∨ n = 2 ∨ n = 3 ∨ n = 4 ∨ n = 5 ∨ n = 6 ∨ n = 7 ∨ n = 8 ∨ n = 9 := by omega
  rcases hc with h | h | h | h | h | h | h | h | h | h
  all_goals
    subst h
    go_enter Tryd.func62, Tryd.ntmps62
    go_wp2
    go_ret
    exact ⟨by rfl, rfl⟩
theorem l1Num_two (n : Nat) (h1 : 10 ≤ n) (hn : n ≤ 20) (W : World) :
    Calls Tryd.prog 62 #[.int .i64 n] W fun e w' => e = .returned (.string ⟨(Lib.decDigits n).toArray⟩) ∧ Below W.heap.size W w' := by
  rw [Lib.decDigits_two (by omega) (by omega)]
  have H1 : ∀ W, Calls Tryd.prog 62 #[.int .i64 1] W fun e w' => e = .returned (.string ⟨#[49]⟩) ∧ W = w' := fun W => by
    have h := l1Num_one 1 (by omega) W
    rw [Lib.decDigits_one (by omega)] at h
    exact h
  have H2 : ∀ W, Calls Tryd.prog 62 #[.int .i64 2] W fun e w' => e = .returned (.string ⟨#[50]⟩) ∧ W = w' := fun W => by
    have h := l1Num_one 2 (by omega) W
    rw [Lib.decDigits_one (by omega)] at h
    exact h
  have G1 := Lib.hid H1
  have G2 := Lib.hid H2
  clear H1 H2
  have hc : (n = 10 ∨ n = 11 ∨ n = 12 ∨ n = 13 ∨ n = 14 ∨ n = 15 ∨ n = 16 ∨ n = 17 ∨ n = 18 ∨ n = 19) ∨ n = 20 := by omega
  rcases hc with hc | h
  · rcases hc with h | h | h | h | h | h | h | h | h | h
    all_goals
      subst h
      go_enter Tryd.func62, Tryd.ntmps62
      go_wp2
      go_quiet ((go_at_call 62; exact quiet_left (G1.out _)))
      go_wp2
      go_ret
      exact ⟨by rfl, below_drewN (Below.refl _ _) _⟩
  · subst h
    go_enter Tryd.func62, Tryd.ntmps62
    go_wp2
    go_quiet ((go_at_call 62; exact quiet_left (G2.out _)))
    go_wp2
    go_ret
    exact ⟨by rfl, below_drewN (Below.refl _ _) _⟩
theorem l1Num_any (n : Nat) (hn : n ≤ 20) (W : World) :
    Calls Tryd.prog 62 #[.int .i64 n] W fun e w' => e = .returned (.string ⟨(Lib.decDigits n).toArray⟩) ∧ Below W.heap.size W w' := by
  by_cases h : n < 10
  · refine (l1Num_one n h W).mono ?_
    rintro e w' ⟨rfl, rfl⟩
    exact ⟨rfl, Below.refl _ _⟩
  · exact l1Num_two n (by omega) hn W
end Go.Proofs.YtjnaigpogloboaaDoor
