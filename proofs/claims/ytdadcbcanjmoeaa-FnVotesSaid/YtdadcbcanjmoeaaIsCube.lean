/-
  Contracts of IsCube. (Printed by gen_D1.py.)
-/
import Derived.Test.YtdadcbcanjmoeaaSide
namespace Go.Proofs.Ytdadcbcanjmoeaa
set_option linter.unusedVariables false
open Go.RowKit

def goodC (s : Cube) : Bool := sideB s.side && placeB s.west s.south && (s.west % s.side == 0) && (s.south % s.side == 0) && tickB s.from_ && tickB s.to_ && decide (s.from_ ≤ s.to_)

theorem IsCube_any (s : Cube) (w : World) :
    Calls Try.prog 17 #[.agg #[.int .i64 s.west, .int .i64 s.south, .int .i64 s.side, .int .i64 s.from_, .int .i64 s.to_]] w fun e w' => e = .returned (.bool (goodC s)) ∧ Below w.heap.size w w' := by
  cases k1 : sideB s.side with
  | false =>
    have hv : goodC s = false := by simp only [goodC, k1]; simp
    rw [hv]
    clear hv
    go_enter Try.func17, Try.ntmps17
    go_wp2_with (first | (go_at_call 62; refine (isSide_any _ _).mono ?_; rintro e w' ⟨rfl, rfl⟩) | (go_at_call 63; refine (isPlace_any _ _ _).mono ?_; rintro e w' ⟨rfl, rfl⟩) | (go_at_call 64; refine (isTick_any _ _).mono ?_; rintro e w' ⟨rfl, rfl⟩))
    go_ret
    refine ⟨rfl, ?_⟩
    (repeat (first | with_reducible exact Below.refl _ _ | with_reducible assumption | with_reducible refine Below.setCell ?_ (by simp <;> omega) _ | with_reducible refine Below.alloc ?_ (by first | omega | (simp <;> omega)) _ | with_reducible refine Below.drew ?_ | with_reducible refine below_drewN ?_ _))
  | true =>
    have hs1 := sideB_in k1
    have hs0 : (s.side == 0) = false := by simp; omega
    cases k2 : placeB s.west s.south with
    | false =>
      have hv : goodC s = false := by simp only [goodC, k1, k2]; simp
      rw [hv]
      clear hv
      go_enter Try.func17, Try.ntmps17
      go_wp2_with (first | (go_at_call 62; refine (isSide_any _ _).mono ?_; rintro e w' ⟨rfl, rfl⟩) | (go_at_call 63; refine (isPlace_any _ _ _).mono ?_; rintro e w' ⟨rfl, rfl⟩) | (go_at_call 64; refine (isTick_any _ _).mono ?_; rintro e w' ⟨rfl, rfl⟩))
      go_ret
      refine ⟨rfl, ?_⟩
      (repeat (first | with_reducible exact Below.refl _ _ | with_reducible assumption | with_reducible refine Below.setCell ?_ (by simp <;> omega) _ | with_reducible refine Below.alloc ?_ (by first | omega | (simp <;> omega)) _ | with_reducible refine Below.drew ?_ | with_reducible refine below_drewN ?_ _))
    | true =>
      have hr := placeB_iff.1 k2
      have hm1 := Int.emod_nonneg s.west (show s.side ≠ 0 by omega)
      have hm2 := Int.emod_lt_of_pos s.west (show 0 < s.side by omega)
      have hm3 := Int.emod_nonneg s.south (show s.side ≠ 0 by omega)
      have hm4 := Int.emod_lt_of_pos s.south (show 0 < s.side by omega)
      cases k3 : (s.west % s.side == 0) with
      | false =>
        have hv : goodC s = false := by simp only [goodC, k1, k2, k3]; simp
        rw [hv]
        clear hv
        have n3 : (s.west % s.side != 0) = true := by simp [bne, k3]
        go_enter Try.func17, Try.ntmps17
        go_wp2_with (first | (go_at_call 62; refine (isSide_any _ _).mono ?_; rintro e w' ⟨rfl, rfl⟩) | (go_at_call 63; refine (isPlace_any _ _ _).mono ?_; rintro e w' ⟨rfl, rfl⟩) | (go_at_call 64; refine (isTick_any _ _).mono ?_; rintro e w' ⟨rfl, rfl⟩))
        go_ret
        refine ⟨rfl, ?_⟩
        (repeat (first | with_reducible exact Below.refl _ _ | with_reducible assumption | with_reducible refine Below.setCell ?_ (by simp <;> omega) _ | with_reducible refine Below.alloc ?_ (by first | omega | (simp <;> omega)) _ | with_reducible refine Below.drew ?_ | with_reducible refine below_drewN ?_ _))
      | true =>
        cases k4 : (s.south % s.side == 0) with
        | false =>
          have hv : goodC s = false := by simp only [goodC, k1, k2, k3, k4]; simp
          rw [hv]
          clear hv
          have n3 : (s.west % s.side != 0) = false := by simp [bne, k3]
          have n4 : (s.south % s.side != 0) = true := by simp [bne, k4]
          go_enter Try.func17, Try.ntmps17
          go_wp2_with (first | (go_at_call 62; refine (isSide_any _ _).mono ?_; rintro e w' ⟨rfl, rfl⟩) | (go_at_call 63; refine (isPlace_any _ _ _).mono ?_; rintro e w' ⟨rfl, rfl⟩) | (go_at_call 64; refine (isTick_any _ _).mono ?_; rintro e w' ⟨rfl, rfl⟩))
          go_ret
          refine ⟨rfl, ?_⟩
          (repeat (first | with_reducible exact Below.refl _ _ | with_reducible assumption | with_reducible refine Below.setCell ?_ (by simp <;> omega) _ | with_reducible refine Below.alloc ?_ (by first | omega | (simp <;> omega)) _ | with_reducible refine Below.drew ?_ | with_reducible refine below_drewN ?_ _))
        | true =>
          cases k5 : tickB s.from_ with
          | false =>
            have hv : goodC s = false := by simp only [goodC, k1, k2, k3, k4, k5]; simp
            rw [hv]
            clear hv
            have n3 : (s.west % s.side != 0) = false := by simp [bne, k3]
            have n4 : (s.south % s.side != 0) = false := by simp [bne, k4]
            go_enter Try.func17, Try.ntmps17
            go_wp2_with (first | (go_at_call 62; refine (isSide_any _ _).mono ?_; rintro e w' ⟨rfl, rfl⟩) | (go_at_call 63; refine (isPlace_any _ _ _).mono ?_; rintro e w' ⟨rfl, rfl⟩) | (go_at_call 64; refine (isTick_any _ _).mono ?_; rintro e w' ⟨rfl, rfl⟩))
            go_ret
            refine ⟨rfl, ?_⟩
            (repeat (first | with_reducible exact Below.refl _ _ | with_reducible assumption | with_reducible refine Below.setCell ?_ (by simp <;> omega) _ | with_reducible refine Below.alloc ?_ (by first | omega | (simp <;> omega)) _ | with_reducible refine Below.drew ?_ | with_reducible refine below_drewN ?_ _))
          | true =>
            cases k6 : tickB s.to_ with
            | false =>
              have hv : goodC s = false := by simp only [goodC, k1, k2, k3, k4, k5, k6]; simp
              rw [hv]
              clear hv
              have n3 : (s.west % s.side != 0) = false := by simp [bne, k3]
              have n4 : (s.south % s.side != 0) = false := by simp [bne, k4]
              go_enter Try.func17, Try.ntmps17
              go_wp2_with (first | (go_at_call 62; refine (isSide_any _ _).mono ?_; rintro e w' ⟨rfl, rfl⟩) | (go_at_call 63; refine (isPlace_any _ _ _).mono ?_; rintro e w' ⟨rfl, rfl⟩) | (go_at_call 64; refine (isTick_any _ _).mono ?_; rintro e w' ⟨rfl, rfl⟩))
              go_ret
              refine ⟨rfl, ?_⟩
              (repeat (first | with_reducible exact Below.refl _ _ | with_reducible assumption | with_reducible refine Below.setCell ?_ (by simp <;> omega) _ | with_reducible refine Below.alloc ?_ (by first | omega | (simp <;> omega)) _ | with_reducible refine Below.drew ?_ | with_reducible refine below_drewN ?_ _))
            | true =>
              cases k7 : decide (s.from_ ≤ s.to_) with
              | false =>
                have hv : goodC s = false := by simp only [goodC, k1, k2, k3, k4, k5, k6, k7]; simp
                rw [hv]
                clear hv
                have n3 : (s.west % s.side != 0) = false := by simp [bne, k3]
                have n4 : (s.south % s.side != 0) = false := by simp [bne, k4]
                go_enter Try.func17, Try.ntmps17
                go_wp2_with (first | (go_at_call 62; refine (isSide_any _ _).mono ?_; rintro e w' ⟨rfl, rfl⟩) | (go_at_call 63; refine (isPlace_any _ _ _).mono ?_; rintro e w' ⟨rfl, rfl⟩) | (go_at_call 64; refine (isTick_any _ _).mono ?_; rintro e w' ⟨rfl, rfl⟩))
                go_ret
                refine ⟨rfl, ?_⟩
                (repeat (first | with_reducible exact Below.refl _ _ | with_reducible assumption | with_reducible refine Below.setCell ?_ (by simp <;> omega) _ | with_reducible refine Below.alloc ?_ (by first | omega | (simp <;> omega)) _ | with_reducible refine Below.drew ?_ | with_reducible refine below_drewN ?_ _))
              | true =>
                have hv : goodC s = true := by simp only [goodC, k1, k2, k3, k4, k5, k6, k7]; simp
                rw [hv]
                clear hv
                have n3 : (s.west % s.side != 0) = false := by simp [bne, k3]
                have n4 : (s.south % s.side != 0) = false := by simp [bne, k4]
                go_enter Try.func17, Try.ntmps17
                go_wp2_with (first | (go_at_call 62; refine (isSide_any _ _).mono ?_; rintro e w' ⟨rfl, rfl⟩) | (go_at_call 63; refine (isPlace_any _ _ _).mono ?_; rintro e w' ⟨rfl, rfl⟩) | (go_at_call 64; refine (isTick_any _ _).mono ?_; rintro e w' ⟨rfl, rfl⟩))
                go_ret
                refine ⟨rfl, ?_⟩
                (repeat (first | with_reducible exact Below.refl _ _ | with_reducible assumption | with_reducible refine Below.setCell ?_ (by simp <;> omega) _ | with_reducible refine Below.alloc ?_ (by first | omega | (simp <;> omega)) _ | with_reducible refine Below.drew ?_ | with_reducible refine below_drewN ?_ _))

theorem l12Good_any (s : Cube) (w : World) :
    Calls Try.prog 61 #[.agg #[.int .i64 s.west, .int .i64 s.south, .int .i64 s.side, .int .i64 s.from_, .int .i64 s.to_]] w fun e w' => e = .returned (.bool (goodC s)) ∧ Below w.heap.size w w' := by
  cases k1 : sideB s.side with
  | false =>
    have hv : goodC s = false := by simp only [goodC, k1]; simp
    rw [hv]
    clear hv
    go_enter Try.func61, Try.ntmps61
    go_wp2_with (first | (go_at_call 99; refine (l12Side_any _ _).mono ?_; rintro e w' ⟨rfl, rfl⟩) | (go_at_call 65; refine (l2Place_any _ _ _).mono ?_; rintro e w' ⟨rfl, rfl⟩) | (go_at_call 100; refine (l2Tick_any _ _).mono ?_; rintro e w' ⟨rfl, rfl⟩))
    go_ret
    refine ⟨rfl, ?_⟩
    (repeat (first | with_reducible exact Below.refl _ _ | with_reducible assumption | with_reducible refine Below.setCell ?_ (by simp <;> omega) _ | with_reducible refine Below.alloc ?_ (by first | omega | (simp <;> omega)) _ | with_reducible refine Below.drew ?_ | with_reducible refine below_drewN ?_ _))
  | true =>
    have hs1 := sideB_in k1
    have hs0 : (s.side == 0) = false := by simp; omega
    cases k2 : placeB s.west s.south with
    | false =>
      have hv : goodC s = false := by simp only [goodC, k1, k2]; simp
      rw [hv]
      clear hv
      go_enter Try.func61, Try.ntmps61
      go_wp2_with (first | (go_at_call 99; refine (l12Side_any _ _).mono ?_; rintro e w' ⟨rfl, rfl⟩) | (go_at_call 65; refine (l2Place_any _ _ _).mono ?_; rintro e w' ⟨rfl, rfl⟩) | (go_at_call 100; refine (l2Tick_any _ _).mono ?_; rintro e w' ⟨rfl, rfl⟩))
      go_ret
      refine ⟨rfl, ?_⟩
      (repeat (first | with_reducible exact Below.refl _ _ | with_reducible assumption | with_reducible refine Below.setCell ?_ (by simp <;> omega) _ | with_reducible refine Below.alloc ?_ (by first | omega | (simp <;> omega)) _ | with_reducible refine Below.drew ?_ | with_reducible refine below_drewN ?_ _))
    | true =>
      have hr := placeB_iff.1 k2
      have hm1 := Int.emod_nonneg s.west (show s.side ≠ 0 by omega)
      have hm2 := Int.emod_lt_of_pos s.west (show 0 < s.side by omega)
      have hm3 := Int.emod_nonneg s.south (show s.side ≠ 0 by omega)
      have hm4 := Int.emod_lt_of_pos s.south (show 0 < s.side by omega)
      cases k3 : (s.west % s.side == 0) with
      | false =>
        have hv : goodC s = false := by simp only [goodC, k1, k2, k3]; simp
        rw [hv]
        clear hv
        have n3 : (s.west % s.side != 0) = true := by simp [bne, k3]
        go_enter Try.func61, Try.ntmps61
        go_wp2_with (first | (go_at_call 99; refine (l12Side_any _ _).mono ?_; rintro e w' ⟨rfl, rfl⟩) | (go_at_call 65; refine (l2Place_any _ _ _).mono ?_; rintro e w' ⟨rfl, rfl⟩) | (go_at_call 100; refine (l2Tick_any _ _).mono ?_; rintro e w' ⟨rfl, rfl⟩))
        go_ret
        refine ⟨rfl, ?_⟩
        (repeat (first | with_reducible exact Below.refl _ _ | with_reducible assumption | with_reducible refine Below.setCell ?_ (by simp <;> omega) _ | with_reducible refine Below.alloc ?_ (by first | omega | (simp <;> omega)) _ | with_reducible refine Below.drew ?_ | with_reducible refine below_drewN ?_ _))
      | true =>
        cases k4 : (s.south % s.side == 0) with
        | false =>
          have hv : goodC s = false := by simp only [goodC, k1, k2, k3, k4]; simp
          rw [hv]
          clear hv
          have n3 : (s.west % s.side != 0) = false := by simp [bne, k3]
          have n4 : (s.south % s.side != 0) = true := by simp [bne, k4]
          go_enter Try.func61, Try.ntmps61
          go_wp2_with (first | (go_at_call 99; refine (l12Side_any _ _).mono ?_; rintro e w' ⟨rfl, rfl⟩) | (go_at_call 65; refine (l2Place_any _ _ _).mono ?_; rintro e w' ⟨rfl, rfl⟩) | (go_at_call 100; refine (l2Tick_any _ _).mono ?_; rintro e w' ⟨rfl, rfl⟩))
          go_ret
          refine ⟨rfl, ?_⟩
          (repeat (first | with_reducible exact Below.refl _ _ | with_reducible assumption | with_reducible refine Below.setCell ?_ (by simp <;> omega) _ | with_reducible refine Below.alloc ?_ (by first | omega | (simp <;> omega)) _ | with_reducible refine Below.drew ?_ | with_reducible refine below_drewN ?_ _))
        | true =>
          cases k5 : tickB s.from_ with
          | false =>
            have hv : goodC s = false := by simp only [goodC, k1, k2, k3, k4, k5]; simp
            rw [hv]
            clear hv
            have n3 : (s.west % s.side != 0) = false := by simp [bne, k3]
            have n4 : (s.south % s.side != 0) = false := by simp [bne, k4]
            go_enter Try.func61, Try.ntmps61
            go_wp2_with (first | (go_at_call 99; refine (l12Side_any _ _).mono ?_; rintro e w' ⟨rfl, rfl⟩) | (go_at_call 65; refine (l2Place_any _ _ _).mono ?_; rintro e w' ⟨rfl, rfl⟩) | (go_at_call 100; refine (l2Tick_any _ _).mono ?_; rintro e w' ⟨rfl, rfl⟩))
            go_ret
            refine ⟨rfl, ?_⟩
            (repeat (first | with_reducible exact Below.refl _ _ | with_reducible assumption | with_reducible refine Below.setCell ?_ (by simp <;> omega) _ | with_reducible refine Below.alloc ?_ (by first | omega | (simp <;> omega)) _ | with_reducible refine Below.drew ?_ | with_reducible refine below_drewN ?_ _))
          | true =>
            cases k6 : tickB s.to_ with
            | false =>
              have hv : goodC s = false := by simp only [goodC, k1, k2, k3, k4, k5, k6]; simp
              rw [hv]
              clear hv
              have n3 : (s.west % s.side != 0) = false := by simp [bne, k3]
              have n4 : (s.south % s.side != 0) = false := by simp [bne, k4]
              go_enter Try.func61, Try.ntmps61
              go_wp2_with (first | (go_at_call 99; refine (l12Side_any _ _).mono ?_; rintro e w' ⟨rfl, rfl⟩) | (go_at_call 65; refine (l2Place_any _ _ _).mono ?_; rintro e w' ⟨rfl, rfl⟩) | (go_at_call 100; refine (l2Tick_any _ _).mono ?_; rintro e w' ⟨rfl, rfl⟩))
              go_ret
              refine ⟨rfl, ?_⟩
              (repeat (first | with_reducible exact Below.refl _ _ | with_reducible assumption | with_reducible refine Below.setCell ?_ (by simp <;> omega) _ | with_reducible refine Below.alloc ?_ (by first | omega | (simp <;> omega)) _ | with_reducible refine Below.drew ?_ | with_reducible refine below_drewN ?_ _))
            | true =>
              cases k7 : decide (s.from_ ≤ s.to_) with
              | false =>
                have hv : goodC s = false := by simp only [goodC, k1, k2, k3, k4, k5, k6, k7]; simp
                rw [hv]
                clear hv
                have n3 : (s.west % s.side != 0) = false := by simp [bne, k3]
                have n4 : (s.south % s.side != 0) = false := by simp [bne, k4]
                go_enter Try.func61, Try.ntmps61
                go_wp2_with (first | (go_at_call 99; refine (l12Side_any _ _).mono ?_; rintro e w' ⟨rfl, rfl⟩) | (go_at_call 65; refine (l2Place_any _ _ _).mono ?_; rintro e w' ⟨rfl, rfl⟩) | (go_at_call 100; refine (l2Tick_any _ _).mono ?_; rintro e w' ⟨rfl, rfl⟩))
                go_ret
                refine ⟨rfl, ?_⟩
                (repeat (first | with_reducible exact Below.refl _ _ | with_reducible assumption | with_reducible refine Below.setCell ?_ (by simp <;> omega) _ | with_reducible refine Below.alloc ?_ (by first | omega | (simp <;> omega)) _ | with_reducible refine Below.drew ?_ | with_reducible refine below_drewN ?_ _))
              | true =>
                have hv : goodC s = true := by simp only [goodC, k1, k2, k3, k4, k5, k6, k7]; simp
                rw [hv]
                clear hv
                have n3 : (s.west % s.side != 0) = false := by simp [bne, k3]
                have n4 : (s.south % s.side != 0) = false := by simp [bne, k4]
                go_enter Try.func61, Try.ntmps61
                go_wp2_with (first | (go_at_call 99; refine (l12Side_any _ _).mono ?_; rintro e w' ⟨rfl, rfl⟩) | (go_at_call 65; refine (l2Place_any _ _ _).mono ?_; rintro e w' ⟨rfl, rfl⟩) | (go_at_call 100; refine (l2Tick_any _ _).mono ?_; rintro e w' ⟨rfl, rfl⟩))
                go_ret
                refine ⟨rfl, ?_⟩
                (repeat (first | with_reducible exact Below.refl _ _ | with_reducible assumption | with_reducible refine Below.setCell ?_ (by simp <;> omega) _ | with_reducible refine Below.alloc ?_ (by first | omega | (simp <;> omega)) _ | with_reducible refine Below.drew ?_ | with_reducible refine below_drewN ?_ _))

theorem sIsCube_any (s : Cube) (w : World) :
    Calls Try.prog 15 #[.agg #[.int .i64 s.west, .int .i64 s.south, .int .i64 s.side, .int .i64 s.from_, .int .i64 s.to_]] w fun e w' => e = .returned (.bool (goodC s)) ∧ Below w.heap.size w w' := by
  have hc := fun W => l12Good_any s W
  have Hc := Lib.hid hc
  clear hc
  go_enter Try.func15, Try.ntmps15
  go_wp2_with fail
  refine (Hc.out _).mono ?_
  rintro e w1 ⟨rfl, hb1⟩
  go_wp2
  go_ret
  exact ⟨rfl, ((Below.refl _ _).alloc (Nat.le_refl _) _).trans (hb1.mono (by simp))⟩

end Go.Proofs.Ytdadcbcanjmoeaa
