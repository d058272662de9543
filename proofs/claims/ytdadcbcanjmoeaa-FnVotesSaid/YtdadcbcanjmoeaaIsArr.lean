/-
  Contracts of valid arrivals and origins. (Printed by gen_D3.py.)
-/
import Derived.Test.YtdadcbcanjmoeaaPlace
import Derived.Test.YtdadcbcanjmoeaaArrival
import Derived.Test.YtdadcbcanjmoeaaOrigin
namespace Go.Proofs.Ytdadcbcanjmoeaa
set_option linter.unusedVariables false
open Go.RowKit

def goodA (s : Arrival) : Bool := inB s.id 1 99 && placeB s.x s.y && tickB s.tick && inB s.err 0 1000
def goodO (s : Origin) : Bool := placeB s.x s.y && tickB s.tick
theorem goodA_iff {s : Arrival} : goodA s = true ↔ (1 ≤ s.id ∧ s.id ≤ 99) ∧ ((0 ≤ s.x ∧ s.x ≤ 999) ∧ (0 ≤ s.y ∧ s.y ≤ 999)) ∧ (0 ≤ s.tick ∧ s.tick ≤ 1000000) ∧ (0 ≤ s.err ∧ s.err ≤ 1000) := by
  simp only [goodA, Bool.and_eq_true, inB_iff, placeB_iff, tickB_iff, and_assoc]
theorem goodO_iff {s : Origin} : goodO s = true ↔ ((0 ≤ s.x ∧ s.x ≤ 999) ∧ (0 ≤ s.y ∧ s.y ≤ 999)) ∧ (0 ≤ s.tick ∧ s.tick ≤ 1000000) := by
  simp only [goodO, Bool.and_eq_true, placeB_iff, tickB_iff]

theorem isArrival_any (s : Arrival) (w : World) :
    Calls Try.prog 71 #[.agg #[.int .i64 s.id, .int .i64 s.x, .int .i64 s.y, .int .i64 s.tick, .int .i64 s.err]] w fun e w' => e = .returned (.bool (goodA s)) ∧ Below w.heap.size w w' := by
  cases k1 : inB s.id 1 99 with
  | false =>
    have hv : goodA s = false := by simp only [goodA, k1]; simp
    rw [hv]
    clear hv
    go_enter Try.func71, Try.ntmps71
    go_wp2_with (first | (go_at_call 101; refine (in_any _ _ _ _).mono ?_; rintro e w' ⟨rfl, rfl⟩) | (go_at_call 63; refine (isPlace_any _ _ _).mono ?_; rintro e w' ⟨rfl, rfl⟩) | (go_at_call 64; refine (isTick_any _ _).mono ?_; rintro e w' ⟨rfl, rfl⟩))
    all_goals
      go_ret
      refine ⟨rfl, ?_⟩
      (repeat (first | with_reducible exact Below.refl _ _ | with_reducible assumption | with_reducible refine Below.setCell ?_ (by simp <;> omega) _ | with_reducible refine Below.alloc ?_ (by first | omega | (simp <;> omega)) _ | with_reducible refine Below.drew ?_ | with_reducible refine below_drewN ?_ _))
  | true =>
    cases k2 : placeB s.x s.y with
    | false =>
      have hv : goodA s = false := by simp only [goodA, k1, k2]; simp
      rw [hv]
      clear hv
      go_enter Try.func71, Try.ntmps71
      go_wp2_with (first | (go_at_call 101; refine (in_any _ _ _ _).mono ?_; rintro e w' ⟨rfl, rfl⟩) | (go_at_call 63; refine (isPlace_any _ _ _).mono ?_; rintro e w' ⟨rfl, rfl⟩) | (go_at_call 64; refine (isTick_any _ _).mono ?_; rintro e w' ⟨rfl, rfl⟩))
      all_goals
        go_ret
        refine ⟨rfl, ?_⟩
        (repeat (first | with_reducible exact Below.refl _ _ | with_reducible assumption | with_reducible refine Below.setCell ?_ (by simp <;> omega) _ | with_reducible refine Below.alloc ?_ (by first | omega | (simp <;> omega)) _ | with_reducible refine Below.drew ?_ | with_reducible refine below_drewN ?_ _))
    | true =>
      cases k3 : tickB s.tick with
      | false =>
        have hv : goodA s = false := by simp only [goodA, k1, k2, k3]; simp
        rw [hv]
        clear hv
        go_enter Try.func71, Try.ntmps71
        go_wp2_with (first | (go_at_call 101; refine (in_any _ _ _ _).mono ?_; rintro e w' ⟨rfl, rfl⟩) | (go_at_call 63; refine (isPlace_any _ _ _).mono ?_; rintro e w' ⟨rfl, rfl⟩) | (go_at_call 64; refine (isTick_any _ _).mono ?_; rintro e w' ⟨rfl, rfl⟩))
        all_goals
          go_ret
          refine ⟨rfl, ?_⟩
          (repeat (first | with_reducible exact Below.refl _ _ | with_reducible assumption | with_reducible refine Below.setCell ?_ (by simp <;> omega) _ | with_reducible refine Below.alloc ?_ (by first | omega | (simp <;> omega)) _ | with_reducible refine Below.drew ?_ | with_reducible refine below_drewN ?_ _))
      | true =>
        cases k4 : inB s.err 0 1000 with
        | false =>
          have hv : goodA s = false := by simp only [goodA, k1, k2, k3, k4]; simp
          rw [hv]
          clear hv
          go_enter Try.func71, Try.ntmps71
          go_wp2_with (first | (go_at_call 101; refine (in_any _ _ _ _).mono ?_; rintro e w' ⟨rfl, rfl⟩) | (go_at_call 63; refine (isPlace_any _ _ _).mono ?_; rintro e w' ⟨rfl, rfl⟩) | (go_at_call 64; refine (isTick_any _ _).mono ?_; rintro e w' ⟨rfl, rfl⟩))
          all_goals
            go_ret
            refine ⟨rfl, ?_⟩
            (repeat (first | with_reducible exact Below.refl _ _ | with_reducible assumption | with_reducible refine Below.setCell ?_ (by simp <;> omega) _ | with_reducible refine Below.alloc ?_ (by first | omega | (simp <;> omega)) _ | with_reducible refine Below.drew ?_ | with_reducible refine below_drewN ?_ _))
        | true =>
          have hv : goodA s = true := by simp only [goodA, k1, k2, k3, k4]; simp
          rw [hv]
          clear hv
          go_enter Try.func71, Try.ntmps71
          go_wp2_with (first | (go_at_call 101; refine (in_any _ _ _ _).mono ?_; rintro e w' ⟨rfl, rfl⟩) | (go_at_call 63; refine (isPlace_any _ _ _).mono ?_; rintro e w' ⟨rfl, rfl⟩) | (go_at_call 64; refine (isTick_any _ _).mono ?_; rintro e w' ⟨rfl, rfl⟩))
          all_goals
            go_ret
            refine ⟨rfl, ?_⟩
            (repeat (first | with_reducible exact Below.refl _ _ | with_reducible assumption | with_reducible refine Below.setCell ?_ (by simp <;> omega) _ | with_reducible refine Below.alloc ?_ (by first | omega | (simp <;> omega)) _ | with_reducible refine Below.drew ?_ | with_reducible refine below_drewN ?_ _))

theorem l10One_any (s : Arrival) (w : World) :
    Calls Try.prog 68 #[.agg #[.int .i64 s.id, .int .i64 s.x, .int .i64 s.y, .int .i64 s.tick, .int .i64 s.err]] w fun e w' => e = .returned (.bool (goodA s)) ∧ Below w.heap.size w w' := by
  cases k1 : inB s.id 1 99 with
  | false =>
    have hv : goodA s = false := by simp only [goodA, k1]; simp
    rw [hv]
    clear hv
    go_enter Try.func68, Try.ntmps68
    go_wp2_with (first | (go_at_call 102; refine (l1In_any _ _ _ _).mono ?_; rintro e w' ⟨rfl, rfl⟩) | (go_at_call 65; refine (l2Place_any _ _ _).mono ?_; rintro e w' ⟨rfl, rfl⟩) | (go_at_call 100; refine (l2Tick_any _ _).mono ?_; rintro e w' ⟨rfl, rfl⟩))
    all_goals
      go_ret
      refine ⟨rfl, ?_⟩
      (repeat (first | with_reducible exact Below.refl _ _ | with_reducible assumption | with_reducible refine Below.setCell ?_ (by simp <;> omega) _ | with_reducible refine Below.alloc ?_ (by first | omega | (simp <;> omega)) _ | with_reducible refine Below.drew ?_ | with_reducible refine below_drewN ?_ _))
  | true =>
    cases k2 : placeB s.x s.y with
    | false =>
      have hv : goodA s = false := by simp only [goodA, k1, k2]; simp
      rw [hv]
      clear hv
      go_enter Try.func68, Try.ntmps68
      go_wp2_with (first | (go_at_call 102; refine (l1In_any _ _ _ _).mono ?_; rintro e w' ⟨rfl, rfl⟩) | (go_at_call 65; refine (l2Place_any _ _ _).mono ?_; rintro e w' ⟨rfl, rfl⟩) | (go_at_call 100; refine (l2Tick_any _ _).mono ?_; rintro e w' ⟨rfl, rfl⟩))
      all_goals
        go_ret
        refine ⟨rfl, ?_⟩
        (repeat (first | with_reducible exact Below.refl _ _ | with_reducible assumption | with_reducible refine Below.setCell ?_ (by simp <;> omega) _ | with_reducible refine Below.alloc ?_ (by first | omega | (simp <;> omega)) _ | with_reducible refine Below.drew ?_ | with_reducible refine below_drewN ?_ _))
    | true =>
      cases k3 : tickB s.tick with
      | false =>
        have hv : goodA s = false := by simp only [goodA, k1, k2, k3]; simp
        rw [hv]
        clear hv
        go_enter Try.func68, Try.ntmps68
        go_wp2_with (first | (go_at_call 102; refine (l1In_any _ _ _ _).mono ?_; rintro e w' ⟨rfl, rfl⟩) | (go_at_call 65; refine (l2Place_any _ _ _).mono ?_; rintro e w' ⟨rfl, rfl⟩) | (go_at_call 100; refine (l2Tick_any _ _).mono ?_; rintro e w' ⟨rfl, rfl⟩))
        all_goals
          go_ret
          refine ⟨rfl, ?_⟩
          (repeat (first | with_reducible exact Below.refl _ _ | with_reducible assumption | with_reducible refine Below.setCell ?_ (by simp <;> omega) _ | with_reducible refine Below.alloc ?_ (by first | omega | (simp <;> omega)) _ | with_reducible refine Below.drew ?_ | with_reducible refine below_drewN ?_ _))
      | true =>
        cases k4 : inB s.err 0 1000 with
        | false =>
          have hv : goodA s = false := by simp only [goodA, k1, k2, k3, k4]; simp
          rw [hv]
          clear hv
          go_enter Try.func68, Try.ntmps68
          go_wp2_with (first | (go_at_call 102; refine (l1In_any _ _ _ _).mono ?_; rintro e w' ⟨rfl, rfl⟩) | (go_at_call 65; refine (l2Place_any _ _ _).mono ?_; rintro e w' ⟨rfl, rfl⟩) | (go_at_call 100; refine (l2Tick_any _ _).mono ?_; rintro e w' ⟨rfl, rfl⟩))
          all_goals
            go_ret
            refine ⟨rfl, ?_⟩
            (repeat (first | with_reducible exact Below.refl _ _ | with_reducible assumption | with_reducible refine Below.setCell ?_ (by simp <;> omega) _ | with_reducible refine Below.alloc ?_ (by first | omega | (simp <;> omega)) _ | with_reducible refine Below.drew ?_ | with_reducible refine below_drewN ?_ _))
        | true =>
          have hv : goodA s = true := by simp only [goodA, k1, k2, k3, k4]; simp
          rw [hv]
          clear hv
          go_enter Try.func68, Try.ntmps68
          go_wp2_with (first | (go_at_call 102; refine (l1In_any _ _ _ _).mono ?_; rintro e w' ⟨rfl, rfl⟩) | (go_at_call 65; refine (l2Place_any _ _ _).mono ?_; rintro e w' ⟨rfl, rfl⟩) | (go_at_call 100; refine (l2Tick_any _ _).mono ?_; rintro e w' ⟨rfl, rfl⟩))
          all_goals
            go_ret
            refine ⟨rfl, ?_⟩
            (repeat (first | with_reducible exact Below.refl _ _ | with_reducible assumption | with_reducible refine Below.setCell ?_ (by simp <;> omega) _ | with_reducible refine Below.alloc ?_ (by first | omega | (simp <;> omega)) _ | with_reducible refine Below.drew ?_ | with_reducible refine below_drewN ?_ _))

theorem isOrigin_any (s : Origin) (w : World) :
    Calls Try.prog 72 #[.agg #[.int .i64 s.x, .int .i64 s.y, .int .i64 s.tick]] w fun e w' => e = .returned (.bool (goodO s)) ∧ Below w.heap.size w w' := by
  cases k1 : placeB s.x s.y with
  | false =>
    have hv : goodO s = false := by simp only [goodO, k1]; simp
    rw [hv]
    clear hv
    go_enter Try.func72, Try.ntmps72
    go_wp2_with (first | (go_at_call 63; refine (isPlace_any _ _ _).mono ?_; rintro e w' ⟨rfl, rfl⟩) | (go_at_call 64; refine (isTick_any _ _).mono ?_; rintro e w' ⟨rfl, rfl⟩))
    all_goals
      go_ret
      refine ⟨rfl, ?_⟩
      (repeat (first | with_reducible exact Below.refl _ _ | with_reducible assumption | with_reducible refine Below.setCell ?_ (by simp <;> omega) _ | with_reducible refine Below.alloc ?_ (by first | omega | (simp <;> omega)) _ | with_reducible refine Below.drew ?_ | with_reducible refine below_drewN ?_ _))
  | true =>
    cases k2 : tickB s.tick with
    | false =>
      have hv : goodO s = false := by simp only [goodO, k1, k2]; simp
      rw [hv]
      clear hv
      go_enter Try.func72, Try.ntmps72
      go_wp2_with (first | (go_at_call 63; refine (isPlace_any _ _ _).mono ?_; rintro e w' ⟨rfl, rfl⟩) | (go_at_call 64; refine (isTick_any _ _).mono ?_; rintro e w' ⟨rfl, rfl⟩))
      all_goals
        go_ret
        refine ⟨rfl, ?_⟩
        (repeat (first | with_reducible exact Below.refl _ _ | with_reducible assumption | with_reducible refine Below.setCell ?_ (by simp <;> omega) _ | with_reducible refine Below.alloc ?_ (by first | omega | (simp <;> omega)) _ | with_reducible refine Below.drew ?_ | with_reducible refine below_drewN ?_ _))
    | true =>
      have hv : goodO s = true := by simp only [goodO, k1, k2]; simp
      rw [hv]
      clear hv
      go_enter Try.func72, Try.ntmps72
      go_wp2_with (first | (go_at_call 63; refine (isPlace_any _ _ _).mono ?_; rintro e w' ⟨rfl, rfl⟩) | (go_at_call 64; refine (isTick_any _ _).mono ?_; rintro e w' ⟨rfl, rfl⟩))
      all_goals
        go_ret
        refine ⟨rfl, ?_⟩
        (repeat (first | with_reducible exact Below.refl _ _ | with_reducible assumption | with_reducible refine Below.setCell ?_ (by simp <;> omega) _ | with_reducible refine Below.alloc ?_ (by first | omega | (simp <;> omega)) _ | with_reducible refine Below.drew ?_ | with_reducible refine below_drewN ?_ _))

theorem l10Origin_any (s : Origin) (w : World) :
    Calls Try.prog 69 #[.agg #[.int .i64 s.x, .int .i64 s.y, .int .i64 s.tick]] w fun e w' => e = .returned (.bool (goodO s)) ∧ Below w.heap.size w w' := by
  cases k1 : placeB s.x s.y with
  | false =>
    have hv : goodO s = false := by simp only [goodO, k1]; simp
    rw [hv]
    clear hv
    go_enter Try.func69, Try.ntmps69
    go_wp2_with (first | (go_at_call 65; refine (l2Place_any _ _ _).mono ?_; rintro e w' ⟨rfl, rfl⟩) | (go_at_call 100; refine (l2Tick_any _ _).mono ?_; rintro e w' ⟨rfl, rfl⟩))
    all_goals
      go_ret
      refine ⟨rfl, ?_⟩
      (repeat (first | with_reducible exact Below.refl _ _ | with_reducible assumption | with_reducible refine Below.setCell ?_ (by simp <;> omega) _ | with_reducible refine Below.alloc ?_ (by first | omega | (simp <;> omega)) _ | with_reducible refine Below.drew ?_ | with_reducible refine below_drewN ?_ _))
  | true =>
    cases k2 : tickB s.tick with
    | false =>
      have hv : goodO s = false := by simp only [goodO, k1, k2]; simp
      rw [hv]
      clear hv
      go_enter Try.func69, Try.ntmps69
      go_wp2_with (first | (go_at_call 65; refine (l2Place_any _ _ _).mono ?_; rintro e w' ⟨rfl, rfl⟩) | (go_at_call 100; refine (l2Tick_any _ _).mono ?_; rintro e w' ⟨rfl, rfl⟩))
      all_goals
        go_ret
        refine ⟨rfl, ?_⟩
        (repeat (first | with_reducible exact Below.refl _ _ | with_reducible assumption | with_reducible refine Below.setCell ?_ (by simp <;> omega) _ | with_reducible refine Below.alloc ?_ (by first | omega | (simp <;> omega)) _ | with_reducible refine Below.drew ?_ | with_reducible refine below_drewN ?_ _))
    | true =>
      have hv : goodO s = true := by simp only [goodO, k1, k2]; simp
      rw [hv]
      clear hv
      go_enter Try.func69, Try.ntmps69
      go_wp2_with (first | (go_at_call 65; refine (l2Place_any _ _ _).mono ?_; rintro e w' ⟨rfl, rfl⟩) | (go_at_call 100; refine (l2Tick_any _ _).mono ?_; rintro e w' ⟨rfl, rfl⟩))
      all_goals
        go_ret
        refine ⟨rfl, ?_⟩
        (repeat (first | with_reducible exact Below.refl _ _ | with_reducible assumption | with_reducible refine Below.setCell ?_ (by simp <;> omega) _ | with_reducible refine Below.alloc ?_ (by first | omega | (simp <;> omega)) _ | with_reducible refine Below.drew ?_ | with_reducible refine below_drewN ?_ _))

end Go.Proofs.Ytdadcbcanjmoeaa
