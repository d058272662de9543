/-
  Contracts of IsSetting.
-/
import Derived.Test.YtaemdldpcpefbaaSetting
namespace Go.Proofs.Ytaemdldpcpefbaa
set_option linter.unusedVariables false
open Go.RowKit

def goodG (s : Setting) : Bool := inB s.short 1 5 && inB s.long (s.short + 1) 20 && inB s.on 10 1000 && inB s.off 10 s.on

theorem IsSetting_any (s : Setting) (w : World) :
    Calls Try.prog 16 #[.agg #[.int .i64 s.short, .int .i64 s.long, .int .i64 s.on, .int .i64 s.off]] w fun e w' => e = .returned (.bool (goodG s)) ∧ Below w.heap.size w w' := by
  cases k1 : inB s.short 1 5 with
  | false =>
    have hv : goodG s = false := by simp only [goodG, k1]; simp
    rw [hv]
    clear hv
    go_enter Try.func16, Try.ntmps16
    go_wp2_with (go_at_call 51; refine (in_any _ _ _ _).mono ?_; rintro e w' ⟨rfl, rfl⟩)
    go_ret
    refine ⟨rfl, ?_⟩
    (repeat (first | with_reducible exact Below.refl _ _ | with_reducible assumption | with_reducible refine Below.setCell ?_ (by simp <;> omega) _ | with_reducible refine Below.alloc ?_ (by first | omega | (simp <;> omega)) _ | with_reducible refine Below.drew ?_ | with_reducible refine below_drewN ?_ _))
  | true =>
    have hr := inB_iff.1 k1
    cases k2 : inB s.long (s.short + 1) 20 with
    | false =>
      have hv : goodG s = false := by simp only [goodG, k1, k2]; simp
      rw [hv]
      clear hv
      go_enter Try.func16, Try.ntmps16
      go_wp2_with (go_at_call 51; refine (in_any _ _ _ _).mono ?_; rintro e w' ⟨rfl, rfl⟩)
      go_ret
      refine ⟨rfl, ?_⟩
      (repeat (first | with_reducible exact Below.refl _ _ | with_reducible assumption | with_reducible refine Below.setCell ?_ (by simp <;> omega) _ | with_reducible refine Below.alloc ?_ (by first | omega | (simp <;> omega)) _ | with_reducible refine Below.drew ?_ | with_reducible refine below_drewN ?_ _))
    | true =>
      cases k3 : inB s.on 10 1000 with
      | false =>
        have hv : goodG s = false := by simp only [goodG, k1, k2, k3]; simp
        rw [hv]
        clear hv
        go_enter Try.func16, Try.ntmps16
        go_wp2_with (go_at_call 51; refine (in_any _ _ _ _).mono ?_; rintro e w' ⟨rfl, rfl⟩)
        go_ret
        refine ⟨rfl, ?_⟩
        (repeat (first | with_reducible exact Below.refl _ _ | with_reducible assumption | with_reducible refine Below.setCell ?_ (by simp <;> omega) _ | with_reducible refine Below.alloc ?_ (by first | omega | (simp <;> omega)) _ | with_reducible refine Below.drew ?_ | with_reducible refine below_drewN ?_ _))
      | true =>
        cases k4 : inB s.off 10 s.on with
        | false =>
          have hv : goodG s = false := by simp only [goodG, k1, k2, k3, k4]; simp
          rw [hv]
          clear hv
          go_enter Try.func16, Try.ntmps16
          go_wp2_with (go_at_call 51; refine (in_any _ _ _ _).mono ?_; rintro e w' ⟨rfl, rfl⟩)
          go_ret
          refine ⟨rfl, ?_⟩
          (repeat (first | with_reducible exact Below.refl _ _ | with_reducible assumption | with_reducible refine Below.setCell ?_ (by simp <;> omega) _ | with_reducible refine Below.alloc ?_ (by first | omega | (simp <;> omega)) _ | with_reducible refine Below.drew ?_ | with_reducible refine below_drewN ?_ _))
        | true =>
          have hv : goodG s = true := by simp only [goodG, k1, k2, k3, k4]; simp
          rw [hv]
          clear hv
          go_enter Try.func16, Try.ntmps16
          go_wp2_with (go_at_call 51; refine (in_any _ _ _ _).mono ?_; rintro e w' ⟨rfl, rfl⟩)
          go_ret
          refine ⟨rfl, ?_⟩
          (repeat (first | with_reducible exact Below.refl _ _ | with_reducible assumption | with_reducible refine Below.setCell ?_ (by simp <;> omega) _ | with_reducible refine Below.alloc ?_ (by first | omega | (simp <;> omega)) _ | with_reducible refine Below.drew ?_ | with_reducible refine below_drewN ?_ _))

theorem l9Good_any (s : Setting) (w : World) :
    Calls Try.prog 50 #[.agg #[.int .i64 s.short, .int .i64 s.long, .int .i64 s.on, .int .i64 s.off]] w fun e w' => e = .returned (.bool (goodG s)) ∧ Below w.heap.size w w' := by
  cases k1 : inB s.short 1 5 with
  | false =>
    have hv : goodG s = false := by simp only [goodG, k1]; simp
    rw [hv]
    clear hv
    go_enter Try.func50, Try.ntmps50
    go_wp2_with (go_at_call 53; refine (l1In_any _ _ _ _).mono ?_; rintro e w' ⟨rfl, rfl⟩)
    go_ret
    refine ⟨rfl, ?_⟩
    (repeat (first | with_reducible exact Below.refl _ _ | with_reducible assumption | with_reducible refine Below.setCell ?_ (by simp <;> omega) _ | with_reducible refine Below.alloc ?_ (by first | omega | (simp <;> omega)) _ | with_reducible refine Below.drew ?_ | with_reducible refine below_drewN ?_ _))
  | true =>
    have hr := inB_iff.1 k1
    cases k2 : inB s.long (s.short + 1) 20 with
    | false =>
      have hv : goodG s = false := by simp only [goodG, k1, k2]; simp
      rw [hv]
      clear hv
      go_enter Try.func50, Try.ntmps50
      go_wp2_with (go_at_call 53; refine (l1In_any _ _ _ _).mono ?_; rintro e w' ⟨rfl, rfl⟩)
      go_ret
      refine ⟨rfl, ?_⟩
      (repeat (first | with_reducible exact Below.refl _ _ | with_reducible assumption | with_reducible refine Below.setCell ?_ (by simp <;> omega) _ | with_reducible refine Below.alloc ?_ (by first | omega | (simp <;> omega)) _ | with_reducible refine Below.drew ?_ | with_reducible refine below_drewN ?_ _))
    | true =>
      cases k3 : inB s.on 10 1000 with
      | false =>
        have hv : goodG s = false := by simp only [goodG, k1, k2, k3]; simp
        rw [hv]
        clear hv
        go_enter Try.func50, Try.ntmps50
        go_wp2_with (go_at_call 53; refine (l1In_any _ _ _ _).mono ?_; rintro e w' ⟨rfl, rfl⟩)
        go_ret
        refine ⟨rfl, ?_⟩
        (repeat (first | with_reducible exact Below.refl _ _ | with_reducible assumption | with_reducible refine Below.setCell ?_ (by simp <;> omega) _ | with_reducible refine Below.alloc ?_ (by first | omega | (simp <;> omega)) _ | with_reducible refine Below.drew ?_ | with_reducible refine below_drewN ?_ _))
      | true =>
        cases k4 : inB s.off 10 s.on with
        | false =>
          have hv : goodG s = false := by simp only [goodG, k1, k2, k3, k4]; simp
          rw [hv]
          clear hv
          go_enter Try.func50, Try.ntmps50
          go_wp2_with (go_at_call 53; refine (l1In_any _ _ _ _).mono ?_; rintro e w' ⟨rfl, rfl⟩)
          go_ret
          refine ⟨rfl, ?_⟩
          (repeat (first | with_reducible exact Below.refl _ _ | with_reducible assumption | with_reducible refine Below.setCell ?_ (by simp <;> omega) _ | with_reducible refine Below.alloc ?_ (by first | omega | (simp <;> omega)) _ | with_reducible refine Below.drew ?_ | with_reducible refine below_drewN ?_ _))
        | true =>
          have hv : goodG s = true := by simp only [goodG, k1, k2, k3, k4]; simp
          rw [hv]
          clear hv
          go_enter Try.func50, Try.ntmps50
          go_wp2_with (go_at_call 53; refine (l1In_any _ _ _ _).mono ?_; rintro e w' ⟨rfl, rfl⟩)
          go_ret
          refine ⟨rfl, ?_⟩
          (repeat (first | with_reducible exact Below.refl _ _ | with_reducible assumption | with_reducible refine Below.setCell ?_ (by simp <;> omega) _ | with_reducible refine Below.alloc ?_ (by first | omega | (simp <;> omega)) _ | with_reducible refine Below.drew ?_ | with_reducible refine below_drewN ?_ _))

theorem sIsSetting_any (s : Setting) (w : World) :
    Calls Try.prog 14 #[.agg #[.int .i64 s.short, .int .i64 s.long, .int .i64 s.on, .int .i64 s.off]] w fun e w' => e = .returned (.bool (goodG s)) ∧ Below w.heap.size w w' := by
  have hc := fun W => l9Good_any s W
  have Hc := Lib.hid hc
  clear hc
  go_enter Try.func14, Try.ntmps14
  go_wp2_with fail
  refine (Hc.out _).mono ?_
  rintro e w1 ⟨rfl, hb1⟩
  go_wp2
  go_ret
  exact ⟨rfl, ((Below.refl _ _).alloc (Nat.le_refl _) _).trans (hb1.mono (by simp))⟩

end Go.Proofs.Ytaemdldpcpefbaa
