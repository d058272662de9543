/-
  Contracts of the small functions on places and ticks. (Printed by gen_place.py.)
-/
import Derived.Test.YtiakaglgfboepaaPure
namespace Go.Proofs.Ytiakaglgfboepaa
set_option linter.unusedVariables false
open Go.RowKit

def placeB (x y : Int) : Bool := inB x 0 999 && inB y 0 999
def tickB (x : Int) : Bool := inB x 0 1000000
theorem placeB_iff {x y : Int} : placeB x y = true ↔ (0 ≤ x ∧ x ≤ 999) ∧ (0 ≤ y ∧ y ≤ 999) := by simp [placeB, inB_iff]
theorem tickB_iff {x : Int} : tickB x = true ↔ 0 ≤ x ∧ x ≤ 1000000 := inB_iff


theorem isTick_any (x : Int) (w : World) :
    Calls Try.prog 62 #[.int .i64 x] w fun e w' => e = .returned (.bool (tickB x)) ∧ w = w' := by
  cases k1 : inB x 0 1000000 with
  | false =>
    have hv : tickB x = false := by simpa [tickB] using k1
    rw [hv]
    clear hv
    go_enter Try.func62, Try.ntmps62
    go_wp2_with (go_at_call 61; refine (in_any _ _ _ _).mono ?_; rintro e w' ⟨rfl, rfl⟩)
    go_ret
    exact ⟨rfl, rfl⟩
  | true =>
    have hv : tickB x = true := by simpa [tickB] using k1
    rw [hv]
    clear hv
    go_enter Try.func62, Try.ntmps62
    go_wp2_with (go_at_call 61; refine (in_any _ _ _ _).mono ?_; rintro e w' ⟨rfl, rfl⟩)
    go_ret
    exact ⟨rfl, rfl⟩


theorem l2Tick_any (x : Int) (w : World) :
    Calls Try.prog 95 #[.int .i64 x] w fun e w' => e = .returned (.bool (tickB x)) ∧ w = w' := by
  cases k1 : inB x 0 1000000 with
  | false =>
    have hv : tickB x = false := by simpa [tickB] using k1
    rw [hv]
    clear hv
    go_enter Try.func95, Try.ntmps95
    go_wp2_with (go_at_call 82; refine (l1In_any _ _ _ _).mono ?_; rintro e w' ⟨rfl, rfl⟩)
    go_ret
    exact ⟨rfl, rfl⟩
  | true =>
    have hv : tickB x = true := by simpa [tickB] using k1
    rw [hv]
    clear hv
    go_enter Try.func95, Try.ntmps95
    go_wp2_with (go_at_call 82; refine (l1In_any _ _ _ _).mono ?_; rintro e w' ⟨rfl, rfl⟩)
    go_ret
    exact ⟨rfl, rfl⟩

end Go.Proofs.Ytiakaglgfboepaa
