/-
  Contracts of the small functions on places and ticks. (Printed by gen_place.py.)
-/
import Derived.Test.YtjnaigpogloboaaDoorPure
namespace Go.Proofs.YtjnaigpogloboaaDoor
set_option linter.unusedVariables false
open Go.RowKit

def placeB (x y : Int) : Bool := inB x 0 999 && inB y 0 999
def tickB (x : Int) : Bool := inB x 0 1000000
theorem placeB_iff {x y : Int} : placeB x y = true ↔ (0 ≤ x ∧ x ≤ 999) ∧ (0 ≤ y ∧ y ≤ 999) := by simp [placeB, inB_iff]
theorem tickB_iff {x : Int} : tickB x = true ↔ 0 ≤ x ∧ x ≤ 1000000 := inB_iff





end Go.Proofs.YtjnaigpogloboaaDoor
