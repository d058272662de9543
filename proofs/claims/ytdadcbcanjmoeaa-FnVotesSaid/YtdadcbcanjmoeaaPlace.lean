/-
  Contracts of the small functions on places and ticks. (Printed by gen_place.py.)
-/
import Derived.Test.YtdadcbcanjmoeaaPure
namespace Go.Proofs.Ytdadcbcanjmoeaa
set_option linter.unusedVariables false
open Go.RowKit

def placeB (x y : Int) : Bool := inB x 0 999 && inB y 0 999
def tickB (x : Int) : Bool := inB x 0 1000000
theorem placeB_iff {x y : Int} : placeB x y = true ↔ (0 ≤ x ∧ x ≤ 999) ∧ (0 ≤ y ∧ y ≤ 999) := by simp [placeB, inB_iff]
theorem tickB_iff {x : Int} : tickB x = true ↔ 0 ≤ x ∧ x ≤ 1000000 := inB_iff

theorem isPlace_any (x y : Int) (w : World) :
    Calls Try.prog 63 #[.int .i64 x, .int .i64 y] w fun e w' => e = .returned (.bool (placeB x y)) ∧ w = w' := by
  cases k1 : inB x 0 999 with
  | false =>
    have hv : placeB x y = false := by simp only [placeB, k1]; simp
    rw [hv]
    clear hv
    go_enter Try.func63, Try.ntmps63
    go_wp2_with (go_at_call 101; refine (in_any _ _ _ _).mono ?_; rintro e w' ⟨rfl, rfl⟩)
    go_ret
    exact ⟨rfl, rfl⟩
  | true =>
    cases k2 : inB y 0 999 with
    | false =>
      have hv : placeB x y = false := by simp only [placeB, k1, k2]; simp
      rw [hv]
      clear hv
      go_enter Try.func63, Try.ntmps63
      go_wp2_with (go_at_call 101; refine (in_any _ _ _ _).mono ?_; rintro e w' ⟨rfl, rfl⟩)
      go_ret
      exact ⟨rfl, rfl⟩
    | true =>
      have hv : placeB x y = true := by simp only [placeB, k1, k2]; simp
      rw [hv]
      clear hv
      go_enter Try.func63, Try.ntmps63
      go_wp2_with (go_at_call 101; refine (in_any _ _ _ _).mono ?_; rintro e w' ⟨rfl, rfl⟩)
      go_ret
      exact ⟨rfl, rfl⟩

theorem isTick_any (x : Int) (w : World) :
    Calls Try.prog 64 #[.int .i64 x] w fun e w' => e = .returned (.bool (tickB x)) ∧ w = w' := by
  cases k1 : inB x 0 1000000 with
  | false =>
    have hv : tickB x = false := by simpa [tickB] using k1
    rw [hv]
    clear hv
    go_enter Try.func64, Try.ntmps64
    go_wp2_with (go_at_call 101; refine (in_any _ _ _ _).mono ?_; rintro e w' ⟨rfl, rfl⟩)
    go_ret
    exact ⟨rfl, rfl⟩
  | true =>
    have hv : tickB x = true := by simpa [tickB] using k1
    rw [hv]
    clear hv
    go_enter Try.func64, Try.ntmps64
    go_wp2_with (go_at_call 101; refine (in_any _ _ _ _).mono ?_; rintro e w' ⟨rfl, rfl⟩)
    go_ret
    exact ⟨rfl, rfl⟩

theorem l2Place_any (x y : Int) (w : World) :
    Calls Try.prog 65 #[.int .i64 x, .int .i64 y] w fun e w' => e = .returned (.bool (placeB x y)) ∧ w = w' := by
  cases k1 : inB x 0 999 with
  | false =>
    have hv : placeB x y = false := by simp only [placeB, k1]; simp
    rw [hv]
    clear hv
    go_enter Try.func65, Try.ntmps65
    go_wp2_with (go_at_call 102; refine (l1In_any _ _ _ _).mono ?_; rintro e w' ⟨rfl, rfl⟩)
    go_ret
    exact ⟨rfl, rfl⟩
  | true =>
    cases k2 : inB y 0 999 with
    | false =>
      have hv : placeB x y = false := by simp only [placeB, k1, k2]; simp
      rw [hv]
      clear hv
      go_enter Try.func65, Try.ntmps65
      go_wp2_with (go_at_call 102; refine (l1In_any _ _ _ _).mono ?_; rintro e w' ⟨rfl, rfl⟩)
      go_ret
      exact ⟨rfl, rfl⟩
    | true =>
      have hv : placeB x y = true := by simp only [placeB, k1, k2]; simp
      rw [hv]
      clear hv
      go_enter Try.func65, Try.ntmps65
      go_wp2_with (go_at_call 102; refine (l1In_any _ _ _ _).mono ?_; rintro e w' ⟨rfl, rfl⟩)
      go_ret
      exact ⟨rfl, rfl⟩

theorem l2Tick_any (x : Int) (w : World) :
    Calls Try.prog 100 #[.int .i64 x] w fun e w' => e = .returned (.bool (tickB x)) ∧ w = w' := by
  cases k1 : inB x 0 1000000 with
  | false =>
    have hv : tickB x = false := by simpa [tickB] using k1
    rw [hv]
    clear hv
    go_enter Try.func100, Try.ntmps100
    go_wp2_with (go_at_call 102; refine (l1In_any _ _ _ _).mono ?_; rintro e w' ⟨rfl, rfl⟩)
    go_ret
    exact ⟨rfl, rfl⟩
  | true =>
    have hv : tickB x = true := by simpa [tickB] using k1
    rw [hv]
    clear hv
    go_enter Try.func100, Try.ntmps100
    go_wp2_with (go_at_call 102; refine (l1In_any _ _ _ _).mono ?_; rintro e w' ⟨rfl, rfl⟩)
    go_ret
    exact ⟨rfl, rfl⟩

end Go.Proofs.Ytdadcbcanjmoeaa
