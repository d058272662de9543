/-
  The built-in max at three integers, in one word.
-/
import Derived.Test.YtdadcbcanjmoeaaMem
import Derived.Lib.MinMax
namespace Go.Proofs.Ytdadcbcanjmoeaa
set_option linter.unusedVariables false
open Go.RowKit

@[go_sem high] theorem run_max_ints3 {P : Program} (w : World) (ts : Array TypeId) (t : TypeId) (k k' k'' : IntKind) (x y z : Int) :
    (Builtin.max_ ts t #[.int k x, .int k' y, .int k'' z]).run P w = .ok (.int k (max (max x y) z)) w := by
  have e : (if z > (if y > x then y else x) then z else if y > x then y else x) = max (max x y) z := by
    rw [Int.max_def, Int.max_def]
    repeat' split
    all_goals omega
  simp [Builtin.max_, Builtin.max2, e]

end Go.Proofs.Ytdadcbcanjmoeaa
