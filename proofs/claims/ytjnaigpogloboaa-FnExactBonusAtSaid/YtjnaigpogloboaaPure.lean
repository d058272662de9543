/-
  Contracts of the small functions that only reckon with numbers (bounds, least and most, fractions).
-/
import Derived.Test.YtjnaigpogloboaaRows
import Derived.Test.YtjnaigpogloboaaMem
import Derived.Test.YtjnaigpogloboaaMath
import Derived.BigQuiet
namespace Go.Proofs.Ytjnaigpogloboaa
set_option linter.unusedVariables false
open Go.RowKit

theorem in_any (n a b : Int) (w : World) :
    Calls Try.prog 21 #[.int .i64 n, .int .i64 a, .int .i64 b] w fun e w' => e = .returned (.bool (inB n a b)) ∧ w = w' := by
  by_cases h1 : a ≤ n <;> by_cases h2 : n ≤ b
  all_goals
    go_enter Try.func21, Try.ntmps21
    go_wp2
    go_ret
    exact ⟨by simp [inB, h1, h2], rfl⟩

theorem l1In_any (n a b : Int) (w : World) :
    Calls Try.prog 32 #[.int .i64 n, .int .i64 a, .int .i64 b] w fun e w' => e = .returned (.bool (inB n a b)) ∧ w = w' := by
  by_cases h1 : a ≤ n <;> by_cases h2 : n ≤ b
  all_goals
    go_enter Try.func32, Try.ntmps32
    go_wp2
    go_ret
    exact ⟨by simp [inB, h1, h2], rfl⟩







end Go.Proofs.Ytjnaigpogloboaa
