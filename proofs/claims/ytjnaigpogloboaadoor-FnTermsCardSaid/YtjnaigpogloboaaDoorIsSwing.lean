/-
  Contracts of valid swings. (Printed by gen_E1.py.)
-/
import Derived.Test.YtjnaigpogloboaaDoorFar
import Derived.Test.YtjnaigpogloboaaDoorSwing
namespace Go.Proofs.YtjnaigpogloboaaDoor
set_option linter.unusedVariables false
open Go.RowKit

def goodW (s : Swing) : Bool := inB s.station 1 99 && inB s.far 0 1500 && inB s.width 1 1000000 && inB s.term (-50) 50
theorem goodW_iff {s : Swing} : goodW s = true ↔ (1 ≤ s.station ∧ s.station ≤ 99) ∧ (0 ≤ s.far ∧ s.far ≤ 1500) ∧ (1 ≤ s.width ∧ s.width ≤ 1000000) ∧ (-50 ≤ s.term ∧ s.term ≤ 50) := by
  simp only [goodW, Bool.and_eq_true, inB_iff, and_assoc]

theorem isSwing_any (s : Swing) (w : World) :
    Calls Tryd.prog 73 #[.agg #[.int .i64 s.station, .int .i64 s.far, .int .i64 s.width, .int .i64 s.term]] w fun e w' => e = .returned (.bool (goodW s)) ∧ Below w.heap.size w w' := by
  cases k1 : inB s.station 1 99 with
  | false =>
    have hv : goodW s = false := by simp only [goodW, k1]; simp
    rw [hv]
    clear hv
    go_enter Tryd.func73, Tryd.ntmps73
    go_wp2_with (first | (go_at_call 63; refine (in_any _ _ _ _).mono ?_; rintro e w' ⟨rfl, rfl⟩) | (go_at_call 67; refine (isFar_any _ _).mono ?_; rintro e w' ⟨rfl, rfl⟩) | (go_at_call 58; refine (isWidth_any _ _).mono ?_; rintro e w' ⟨rfl, rfl⟩))
    all_goals
      go_ret
      refine ⟨rfl, ?_⟩
      (repeat (first | with_reducible exact Below.refl _ _ | with_reducible assumption | with_reducible refine Below.setCell ?_ (by simp <;> omega) _ | with_reducible refine Below.alloc ?_ (by first | omega | (simp <;> omega)) _ | with_reducible refine Below.drew ?_ | with_reducible refine below_drewN ?_ _))
  | true =>
    cases k2 : inB s.far 0 1500 with
    | false =>
      have hv : goodW s = false := by simp only [goodW, k1, k2]; simp
      rw [hv]
      clear hv
      go_enter Tryd.func73, Tryd.ntmps73
      go_wp2_with (first | (go_at_call 63; refine (in_any _ _ _ _).mono ?_; rintro e w' ⟨rfl, rfl⟩) | (go_at_call 67; refine (isFar_any _ _).mono ?_; rintro e w' ⟨rfl, rfl⟩) | (go_at_call 58; refine (isWidth_any _ _).mono ?_; rintro e w' ⟨rfl, rfl⟩))
      all_goals
        go_ret
        refine ⟨rfl, ?_⟩
        (repeat (first | with_reducible exact Below.refl _ _ | with_reducible assumption | with_reducible refine Below.setCell ?_ (by simp <;> omega) _ | with_reducible refine Below.alloc ?_ (by first | omega | (simp <;> omega)) _ | with_reducible refine Below.drew ?_ | with_reducible refine below_drewN ?_ _))
    | true =>
      cases k3 : inB s.width 1 1000000 with
      | false =>
        have hv : goodW s = false := by simp only [goodW, k1, k2, k3]; simp
        rw [hv]
        clear hv
        go_enter Tryd.func73, Tryd.ntmps73
        go_wp2_with (first | (go_at_call 63; refine (in_any _ _ _ _).mono ?_; rintro e w' ⟨rfl, rfl⟩) | (go_at_call 67; refine (isFar_any _ _).mono ?_; rintro e w' ⟨rfl, rfl⟩) | (go_at_call 58; refine (isWidth_any _ _).mono ?_; rintro e w' ⟨rfl, rfl⟩))
        all_goals
          go_ret
          refine ⟨rfl, ?_⟩
          (repeat (first | with_reducible exact Below.refl _ _ | with_reducible assumption | with_reducible refine Below.setCell ?_ (by simp <;> omega) _ | with_reducible refine Below.alloc ?_ (by first | omega | (simp <;> omega)) _ | with_reducible refine Below.drew ?_ | with_reducible refine below_drewN ?_ _))
      | true =>
        cases k4 : inB s.term (-50) 50 with
        | false =>
          have hv : goodW s = false := by simp only [goodW, k1, k2, k3, k4]; simp
          rw [hv]
          clear hv
          go_enter Tryd.func73, Tryd.ntmps73
          go_wp2_with (first | (go_at_call 63; refine (in_any _ _ _ _).mono ?_; rintro e w' ⟨rfl, rfl⟩) | (go_at_call 67; refine (isFar_any _ _).mono ?_; rintro e w' ⟨rfl, rfl⟩) | (go_at_call 58; refine (isWidth_any _ _).mono ?_; rintro e w' ⟨rfl, rfl⟩))
          all_goals
            go_ret
            refine ⟨rfl, ?_⟩
            (repeat (first | with_reducible exact Below.refl _ _ | with_reducible assumption | with_reducible refine Below.setCell ?_ (by simp <;> omega) _ | with_reducible refine Below.alloc ?_ (by first | omega | (simp <;> omega)) _ | with_reducible refine Below.drew ?_ | with_reducible refine below_drewN ?_ _))
        | true =>
          have hv : goodW s = true := by simp only [goodW, k1, k2, k3, k4]; simp
          rw [hv]
          clear hv
          go_enter Tryd.func73, Tryd.ntmps73
          go_wp2_with (first | (go_at_call 63; refine (in_any _ _ _ _).mono ?_; rintro e w' ⟨rfl, rfl⟩) | (go_at_call 67; refine (isFar_any _ _).mono ?_; rintro e w' ⟨rfl, rfl⟩) | (go_at_call 58; refine (isWidth_any _ _).mono ?_; rintro e w' ⟨rfl, rfl⟩))
          all_goals
            go_ret
            refine ⟨rfl, ?_⟩
            (repeat (first | with_reducible exact Below.refl _ _ | with_reducible assumption | with_reducible refine Below.setCell ?_ (by simp <;> omega) _ | with_reducible refine Below.alloc ?_ (by first | omega | (simp <;> omega)) _ | with_reducible refine Below.drew ?_ | with_reducible refine below_drewN ?_ _))

theorem l11Swing_any (s : Swing) (w : World) :
    Calls Tryd.prog 71 #[.agg #[.int .i64 s.station, .int .i64 s.far, .int .i64 s.width, .int .i64 s.term]] w fun e w' => e = .returned (.bool (goodW s)) ∧ Below w.heap.size w w' := by
  cases k1 : inB s.station 1 99 with
  | false =>
    have hv : goodW s = false := by simp only [goodW, k1]; simp
    rw [hv]
    clear hv
    go_enter Tryd.func71, Tryd.ntmps71
    go_wp2_with (first | (go_at_call 60; refine (l1In_any _ _ _ _).mono ?_; rintro e w' ⟨rfl, rfl⟩) | (go_at_call 83; refine (l11Far_any _ _).mono ?_; rintro e w' ⟨rfl, rfl⟩) | (go_at_call 56; refine (l11Width_any _ _).mono ?_; rintro e w' ⟨rfl, rfl⟩))
    all_goals
      go_ret
      refine ⟨rfl, ?_⟩
      (repeat (first | with_reducible exact Below.refl _ _ | with_reducible assumption | with_reducible refine Below.setCell ?_ (by simp <;> omega) _ | with_reducible refine Below.alloc ?_ (by first | omega | (simp <;> omega)) _ | with_reducible refine Below.drew ?_ | with_reducible refine below_drewN ?_ _))
  | true =>
    cases k2 : inB s.far 0 1500 with
    | false =>
      have hv : goodW s = false := by simp only [goodW, k1, k2]; simp
      rw [hv]
      clear hv
      go_enter Tryd.func71, Tryd.ntmps71
      go_wp2_with (first | (go_at_call 60; refine (l1In_any _ _ _ _).mono ?_; rintro e w' ⟨rfl, rfl⟩) | (go_at_call 83; refine (l11Far_any _ _).mono ?_; rintro e w' ⟨rfl, rfl⟩) | (go_at_call 56; refine (l11Width_any _ _).mono ?_; rintro e w' ⟨rfl, rfl⟩))
      all_goals
        go_ret
        refine ⟨rfl, ?_⟩
        (repeat (first | with_reducible exact Below.refl _ _ | with_reducible assumption | with_reducible refine Below.setCell ?_ (by simp <;> omega) _ | with_reducible refine Below.alloc ?_ (by first | omega | (simp <;> omega)) _ | with_reducible refine Below.drew ?_ | with_reducible refine below_drewN ?_ _))
    | true =>
      cases k3 : inB s.width 1 1000000 with
      | false =>
        have hv : goodW s = false := by simp only [goodW, k1, k2, k3]; simp
        rw [hv]
        clear hv
        go_enter Tryd.func71, Tryd.ntmps71
        go_wp2_with (first | (go_at_call 60; refine (l1In_any _ _ _ _).mono ?_; rintro e w' ⟨rfl, rfl⟩) | (go_at_call 83; refine (l11Far_any _ _).mono ?_; rintro e w' ⟨rfl, rfl⟩) | (go_at_call 56; refine (l11Width_any _ _).mono ?_; rintro e w' ⟨rfl, rfl⟩))
        all_goals
          go_ret
          refine ⟨rfl, ?_⟩
          (repeat (first | with_reducible exact Below.refl _ _ | with_reducible assumption | with_reducible refine Below.setCell ?_ (by simp <;> omega) _ | with_reducible refine Below.alloc ?_ (by first | omega | (simp <;> omega)) _ | with_reducible refine Below.drew ?_ | with_reducible refine below_drewN ?_ _))
      | true =>
        cases k4 : inB s.term (-50) 50 with
        | false =>
          have hv : goodW s = false := by simp only [goodW, k1, k2, k3, k4]; simp
          rw [hv]
          clear hv
          go_enter Tryd.func71, Tryd.ntmps71
          go_wp2_with (first | (go_at_call 60; refine (l1In_any _ _ _ _).mono ?_; rintro e w' ⟨rfl, rfl⟩) | (go_at_call 83; refine (l11Far_any _ _).mono ?_; rintro e w' ⟨rfl, rfl⟩) | (go_at_call 56; refine (l11Width_any _ _).mono ?_; rintro e w' ⟨rfl, rfl⟩))
          all_goals
            go_ret
            refine ⟨rfl, ?_⟩
            (repeat (first | with_reducible exact Below.refl _ _ | with_reducible assumption | with_reducible refine Below.setCell ?_ (by simp <;> omega) _ | with_reducible refine Below.alloc ?_ (by first | omega | (simp <;> omega)) _ | with_reducible refine Below.drew ?_ | with_reducible refine below_drewN ?_ _))
        | true =>
          have hv : goodW s = true := by simp only [goodW, k1, k2, k3, k4]; simp
          rw [hv]
          clear hv
          go_enter Tryd.func71, Tryd.ntmps71
          go_wp2_with (first | (go_at_call 60; refine (l1In_any _ _ _ _).mono ?_; rintro e w' ⟨rfl, rfl⟩) | (go_at_call 83; refine (l11Far_any _ _).mono ?_; rintro e w' ⟨rfl, rfl⟩) | (go_at_call 56; refine (l11Width_any _ _).mono ?_; rintro e w' ⟨rfl, rfl⟩))
          all_goals
            go_ret
            refine ⟨rfl, ?_⟩
            (repeat (first | with_reducible exact Below.refl _ _ | with_reducible assumption | with_reducible refine Below.setCell ?_ (by simp <;> omega) _ | with_reducible refine Below.alloc ?_ (by first | omega | (simp <;> omega)) _ | with_reducible refine Below.drew ?_ | with_reducible refine below_drewN ?_ _))

end Go.Proofs.YtjnaigpogloboaaDoor
