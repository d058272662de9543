/-
  Contracts of IsPick. (Printed by gen_A1.py.)
-/
import Derived.Test.YtiakaglgfboepaaPlace
import Derived.Test.YtiakaglgfboepaaPick
namespace Go.Proofs.Ytiakaglgfboepaa
set_option linter.unusedVariables false
open Go.RowKit

def goodP (s : Pick) : Bool := inB s.id 1 9999 && inB s.station 1 99 && inB s.wave 0 1 && tickB s.tick && inB s.err 0 1000 && inB s.by_ 0 50 && inB s.after_ 0 (s.id - 1)

theorem IsPick_any (s : Pick) (w : World) :
    Calls Try.prog 17 #[.agg #[.int .i64 s.id, .int .i64 s.station, .int .i64 s.wave, .int .i64 s.tick, .int .i64 s.err, .int .i64 s.by_, .int .i64 s.after_]] w fun e w' => e = .returned (.bool (goodP s)) ∧ Below w.heap.size w w' := by
  cases k2 : inB s.station 1 99 with
  | false =>
    have hv : goodP s = false := by simp only [goodP, k2]; simp
    rw [hv]
    clear hv
    go_enter Try.func17, Try.ntmps17
    go_wp2_with (first | (go_at_call 61; refine (in_any _ _ _ _).mono ?_; rintro e w' ⟨rfl, rfl⟩) | (go_at_call 62; refine (isTick_any _ _).mono ?_; rintro e w' ⟨rfl, rfl⟩))
    all_goals
      go_ret
      refine ⟨rfl, ?_⟩
      (repeat (first | with_reducible exact Below.refl _ _ | with_reducible assumption | with_reducible refine Below.setCell ?_ (by simp <;> omega) _ | with_reducible refine Below.alloc ?_ (by first | omega | (simp <;> omega)) _ | with_reducible refine Below.drew ?_ | with_reducible refine below_drewN ?_ _))
  | true =>
    cases k3 : inB s.wave 0 1 with
    | false =>
      have hv : goodP s = false := by simp only [goodP, k2, k3]; simp
      rw [hv]
      clear hv
      go_enter Try.func17, Try.ntmps17
      go_wp2_with (first | (go_at_call 61; refine (in_any _ _ _ _).mono ?_; rintro e w' ⟨rfl, rfl⟩) | (go_at_call 62; refine (isTick_any _ _).mono ?_; rintro e w' ⟨rfl, rfl⟩))
      all_goals
        go_ret
        refine ⟨rfl, ?_⟩
        (repeat (first | with_reducible exact Below.refl _ _ | with_reducible assumption | with_reducible refine Below.setCell ?_ (by simp <;> omega) _ | with_reducible refine Below.alloc ?_ (by first | omega | (simp <;> omega)) _ | with_reducible refine Below.drew ?_ | with_reducible refine below_drewN ?_ _))
    | true =>
      cases k4 : tickB s.tick with
      | false =>
        have hv : goodP s = false := by simp only [goodP, k2, k3, k4]; simp
        rw [hv]
        clear hv
        go_enter Try.func17, Try.ntmps17
        go_wp2_with (first | (go_at_call 61; refine (in_any _ _ _ _).mono ?_; rintro e w' ⟨rfl, rfl⟩) | (go_at_call 62; refine (isTick_any _ _).mono ?_; rintro e w' ⟨rfl, rfl⟩))
        all_goals
          go_ret
          refine ⟨rfl, ?_⟩
          (repeat (first | with_reducible exact Below.refl _ _ | with_reducible assumption | with_reducible refine Below.setCell ?_ (by simp <;> omega) _ | with_reducible refine Below.alloc ?_ (by first | omega | (simp <;> omega)) _ | with_reducible refine Below.drew ?_ | with_reducible refine below_drewN ?_ _))
      | true =>
        cases k5 : inB s.err 0 1000 with
        | false =>
          have hv : goodP s = false := by simp only [goodP, k2, k3, k4, k5]; simp
          rw [hv]
          clear hv
          go_enter Try.func17, Try.ntmps17
          go_wp2_with (first | (go_at_call 61; refine (in_any _ _ _ _).mono ?_; rintro e w' ⟨rfl, rfl⟩) | (go_at_call 62; refine (isTick_any _ _).mono ?_; rintro e w' ⟨rfl, rfl⟩))
          all_goals
            go_ret
            refine ⟨rfl, ?_⟩
            (repeat (first | with_reducible exact Below.refl _ _ | with_reducible assumption | with_reducible refine Below.setCell ?_ (by simp <;> omega) _ | with_reducible refine Below.alloc ?_ (by first | omega | (simp <;> omega)) _ | with_reducible refine Below.drew ?_ | with_reducible refine below_drewN ?_ _))
        | true =>
          cases k1 : inB s.id 1 9999 with
          | false =>
            have hv : goodP s = false := by simp only [goodP, k2, k3, k4, k5, k1]; simp
            rw [hv]
            clear hv
            go_enter Try.func17, Try.ntmps17
            go_wp2_with (first | (go_at_call 61; refine (in_any _ _ _ _).mono ?_; rintro e w' ⟨rfl, rfl⟩) | (go_at_call 62; refine (isTick_any _ _).mono ?_; rintro e w' ⟨rfl, rfl⟩))
            all_goals
              go_ret
              refine ⟨rfl, ?_⟩
              (repeat (first | with_reducible exact Below.refl _ _ | with_reducible assumption | with_reducible refine Below.setCell ?_ (by simp <;> omega) _ | with_reducible refine Below.alloc ?_ (by first | omega | (simp <;> omega)) _ | with_reducible refine Below.drew ?_ | with_reducible refine below_drewN ?_ _))
          | true =>
            have hr := inB_iff.1 k1
            cases k6 : inB s.by_ 0 50 with
            | false =>
              have hv : goodP s = false := by simp only [goodP, k2, k3, k4, k5, k1, k6]; simp
              rw [hv]
              clear hv
              go_enter Try.func17, Try.ntmps17
              go_wp2_with (first | (go_at_call 61; refine (in_any _ _ _ _).mono ?_; rintro e w' ⟨rfl, rfl⟩) | (go_at_call 62; refine (isTick_any _ _).mono ?_; rintro e w' ⟨rfl, rfl⟩))
              all_goals
                go_ret
                refine ⟨rfl, ?_⟩
                (repeat (first | with_reducible exact Below.refl _ _ | with_reducible assumption | with_reducible refine Below.setCell ?_ (by simp <;> omega) _ | with_reducible refine Below.alloc ?_ (by first | omega | (simp <;> omega)) _ | with_reducible refine Below.drew ?_ | with_reducible refine below_drewN ?_ _))
            | true =>
              cases k7 : inB s.after_ 0 (s.id - 1) with
              | false =>
                have hv : goodP s = false := by simp only [goodP, k2, k3, k4, k5, k1, k6, k7]; simp
                rw [hv]
                clear hv
                go_enter Try.func17, Try.ntmps17
                go_wp2_with (first | (go_at_call 61; refine (in_any _ _ _ _).mono ?_; rintro e w' ⟨rfl, rfl⟩) | (go_at_call 62; refine (isTick_any _ _).mono ?_; rintro e w' ⟨rfl, rfl⟩))
                all_goals
                  go_ret
                  refine ⟨rfl, ?_⟩
                  (repeat (first | with_reducible exact Below.refl _ _ | with_reducible assumption | with_reducible refine Below.setCell ?_ (by simp <;> omega) _ | with_reducible refine Below.alloc ?_ (by first | omega | (simp <;> omega)) _ | with_reducible refine Below.drew ?_ | with_reducible refine below_drewN ?_ _))
              | true =>
                have hv : goodP s = true := by simp only [goodP, k2, k3, k4, k5, k1, k6, k7]; simp
                rw [hv]
                clear hv
                go_enter Try.func17, Try.ntmps17
                go_wp2_with (first | (go_at_call 61; refine (in_any _ _ _ _).mono ?_; rintro e w' ⟨rfl, rfl⟩) | (go_at_call 62; refine (isTick_any _ _).mono ?_; rintro e w' ⟨rfl, rfl⟩))
                all_goals
                  go_ret
                  refine ⟨rfl, ?_⟩
                  (repeat (first | with_reducible exact Below.refl _ _ | with_reducible assumption | with_reducible refine Below.setCell ?_ (by simp <;> omega) _ | with_reducible refine Below.alloc ?_ (by first | omega | (simp <;> omega)) _ | with_reducible refine Below.drew ?_ | with_reducible refine below_drewN ?_ _))

theorem l7One_any (s : Pick) (w : World) :
    Calls Try.prog 60 #[.agg #[.int .i64 s.id, .int .i64 s.station, .int .i64 s.wave, .int .i64 s.tick, .int .i64 s.err, .int .i64 s.by_, .int .i64 s.after_]] w fun e w' => e = .returned (.bool (goodP s)) ∧ Below w.heap.size w w' := by
  cases k1 : inB s.id 1 9999 with
  | false =>
    have hv : goodP s = false := by simp only [goodP, k1]; simp
    rw [hv]
    clear hv
    go_enter Try.func60, Try.ntmps60
    go_wp2_with (first | (go_at_call 82; refine (l1In_any _ _ _ _).mono ?_; rintro e w' ⟨rfl, rfl⟩) | (go_at_call 95; refine (l2Tick_any _ _).mono ?_; rintro e w' ⟨rfl, rfl⟩))
    all_goals
      go_ret
      refine ⟨rfl, ?_⟩
      (repeat (first | with_reducible exact Below.refl _ _ | with_reducible assumption | with_reducible refine Below.setCell ?_ (by simp <;> omega) _ | with_reducible refine Below.alloc ?_ (by first | omega | (simp <;> omega)) _ | with_reducible refine Below.drew ?_ | with_reducible refine below_drewN ?_ _))
  | true =>
    have hr := inB_iff.1 k1
    cases k2 : inB s.station 1 99 with
    | false =>
      have hv : goodP s = false := by simp only [goodP, k1, k2]; simp
      rw [hv]
      clear hv
      go_enter Try.func60, Try.ntmps60
      go_wp2_with (first | (go_at_call 82; refine (l1In_any _ _ _ _).mono ?_; rintro e w' ⟨rfl, rfl⟩) | (go_at_call 95; refine (l2Tick_any _ _).mono ?_; rintro e w' ⟨rfl, rfl⟩))
      all_goals
        go_ret
        refine ⟨rfl, ?_⟩
        (repeat (first | with_reducible exact Below.refl _ _ | with_reducible assumption | with_reducible refine Below.setCell ?_ (by simp <;> omega) _ | with_reducible refine Below.alloc ?_ (by first | omega | (simp <;> omega)) _ | with_reducible refine Below.drew ?_ | with_reducible refine below_drewN ?_ _))
    | true =>
      cases k3 : inB s.wave 0 1 with
      | false =>
        have hv : goodP s = false := by simp only [goodP, k1, k2, k3]; simp
        rw [hv]
        clear hv
        go_enter Try.func60, Try.ntmps60
        go_wp2_with (first | (go_at_call 82; refine (l1In_any _ _ _ _).mono ?_; rintro e w' ⟨rfl, rfl⟩) | (go_at_call 95; refine (l2Tick_any _ _).mono ?_; rintro e w' ⟨rfl, rfl⟩))
        all_goals
          go_ret
          refine ⟨rfl, ?_⟩
          (repeat (first | with_reducible exact Below.refl _ _ | with_reducible assumption | with_reducible refine Below.setCell ?_ (by simp <;> omega) _ | with_reducible refine Below.alloc ?_ (by first | omega | (simp <;> omega)) _ | with_reducible refine Below.drew ?_ | with_reducible refine below_drewN ?_ _))
      | true =>
        cases k4 : tickB s.tick with
        | false =>
          have hv : goodP s = false := by simp only [goodP, k1, k2, k3, k4]; simp
          rw [hv]
          clear hv
          go_enter Try.func60, Try.ntmps60
          go_wp2_with (first | (go_at_call 82; refine (l1In_any _ _ _ _).mono ?_; rintro e w' ⟨rfl, rfl⟩) | (go_at_call 95; refine (l2Tick_any _ _).mono ?_; rintro e w' ⟨rfl, rfl⟩))
          all_goals
            go_ret
            refine ⟨rfl, ?_⟩
            (repeat (first | with_reducible exact Below.refl _ _ | with_reducible assumption | with_reducible refine Below.setCell ?_ (by simp <;> omega) _ | with_reducible refine Below.alloc ?_ (by first | omega | (simp <;> omega)) _ | with_reducible refine Below.drew ?_ | with_reducible refine below_drewN ?_ _))
        | true =>
          cases k5 : inB s.err 0 1000 with
          | false =>
            have hv : goodP s = false := by simp only [goodP, k1, k2, k3, k4, k5]; simp
            rw [hv]
            clear hv
            go_enter Try.func60, Try.ntmps60
            go_wp2_with (first | (go_at_call 82; refine (l1In_any _ _ _ _).mono ?_; rintro e w' ⟨rfl, rfl⟩) | (go_at_call 95; refine (l2Tick_any _ _).mono ?_; rintro e w' ⟨rfl, rfl⟩))
            all_goals
              go_ret
              refine ⟨rfl, ?_⟩
              (repeat (first | with_reducible exact Below.refl _ _ | with_reducible assumption | with_reducible refine Below.setCell ?_ (by simp <;> omega) _ | with_reducible refine Below.alloc ?_ (by first | omega | (simp <;> omega)) _ | with_reducible refine Below.drew ?_ | with_reducible refine below_drewN ?_ _))
          | true =>
            cases k6 : inB s.by_ 0 50 with
            | false =>
              have hv : goodP s = false := by simp only [goodP, k1, k2, k3, k4, k5, k6]; simp
              rw [hv]
              clear hv
              go_enter Try.func60, Try.ntmps60
              go_wp2_with (first | (go_at_call 82; refine (l1In_any _ _ _ _).mono ?_; rintro e w' ⟨rfl, rfl⟩) | (go_at_call 95; refine (l2Tick_any _ _).mono ?_; rintro e w' ⟨rfl, rfl⟩))
              all_goals
                go_ret
                refine ⟨rfl, ?_⟩
                (repeat (first | with_reducible exact Below.refl _ _ | with_reducible assumption | with_reducible refine Below.setCell ?_ (by simp <;> omega) _ | with_reducible refine Below.alloc ?_ (by first | omega | (simp <;> omega)) _ | with_reducible refine Below.drew ?_ | with_reducible refine below_drewN ?_ _))
            | true =>
              cases k7 : inB s.after_ 0 (s.id - 1) with
              | false =>
                have hv : goodP s = false := by simp only [goodP, k1, k2, k3, k4, k5, k6, k7]; simp
                rw [hv]
                clear hv
                go_enter Try.func60, Try.ntmps60
                go_wp2_with (first | (go_at_call 82; refine (l1In_any _ _ _ _).mono ?_; rintro e w' ⟨rfl, rfl⟩) | (go_at_call 95; refine (l2Tick_any _ _).mono ?_; rintro e w' ⟨rfl, rfl⟩))
                all_goals
                  go_ret
                  refine ⟨rfl, ?_⟩
                  (repeat (first | with_reducible exact Below.refl _ _ | with_reducible assumption | with_reducible refine Below.setCell ?_ (by simp <;> omega) _ | with_reducible refine Below.alloc ?_ (by first | omega | (simp <;> omega)) _ | with_reducible refine Below.drew ?_ | with_reducible refine below_drewN ?_ _))
              | true =>
                have hv : goodP s = true := by simp only [goodP, k1, k2, k3, k4, k5, k6, k7]; simp
                rw [hv]
                clear hv
                go_enter Try.func60, Try.ntmps60
                go_wp2_with (first | (go_at_call 82; refine (l1In_any _ _ _ _).mono ?_; rintro e w' ⟨rfl, rfl⟩) | (go_at_call 95; refine (l2Tick_any _ _).mono ?_; rintro e w' ⟨rfl, rfl⟩))
                all_goals
                  go_ret
                  refine ⟨rfl, ?_⟩
                  (repeat (first | with_reducible exact Below.refl _ _ | with_reducible assumption | with_reducible refine Below.setCell ?_ (by simp <;> omega) _ | with_reducible refine Below.alloc ?_ (by first | omega | (simp <;> omega)) _ | with_reducible refine Below.drew ?_ | with_reducible refine below_drewN ?_ _))

theorem sIsPick_any (s : Pick) (w : World) :
    Calls Try.prog 15 #[.agg #[.int .i64 s.id, .int .i64 s.station, .int .i64 s.wave, .int .i64 s.tick, .int .i64 s.err, .int .i64 s.by_, .int .i64 s.after_]] w fun e w' => e = .returned (.bool (goodP s)) ∧ Below w.heap.size w w' := by
  have hc := fun W => l7One_any s W
  have Hc := Lib.hid hc
  clear hc
  go_enter Try.func15, Try.ntmps15
  go_wp2_with fail
  refine (Hc.out _).mono ?_
  rintro e w1 ⟨rfl, hb1⟩
  go_wp2
  go_ret
  exact ⟨rfl, ((Below.refl _ _).alloc (Nat.le_refl _) _).trans (hb1.mono (by simp))⟩

end Go.Proofs.Ytiakaglgfboepaa
