/-
  Contracts of the small functions that only reckon with numbers (bounds, least and most, fractions).
-/
import Derived.Test.YtaemdldpcpefbaaRows
import Derived.Test.YtaemdldpcpefbaaMem
import Derived.Test.YtaemdldpcpefbaaMath
import Derived.BigQuiet
namespace Go.Proofs.Ytaemdldpcpefbaa
set_option linter.unusedVariables false
open Go.RowKit

theorem in_any (n a b : Int) (w : World) :
    Calls Try.prog 51 #[.int .i64 n, .int .i64 a, .int .i64 b] w fun e w' => e = .returned (.bool (inB n a b)) ∧ w = w' := by
  by_cases h1 : a ≤ n <;> by_cases h2 : n ≤ b
  all_goals
    go_enter Try.func51, Try.ntmps51
    go_wp2
    go_ret
    exact ⟨by simp [inB, h1, h2], rfl⟩

theorem l1In_any (n a b : Int) (w : World) :
    Calls Try.prog 53 #[.int .i64 n, .int .i64 a, .int .i64 b] w fun e w' => e = .returned (.bool (inB n a b)) ∧ w = w' := by
  by_cases h1 : a ≤ n <;> by_cases h2 : n ≤ b
  all_goals
    go_enter Try.func53, Try.ntmps53
    go_wp2
    go_ret
    exact ⟨by simp [inB, h1, h2], rfl⟩

theorem l1Most_any (a b : Int) (w : World) :
    Calls Try.prog 70 #[.int .i64 a, .int .i64 b] w fun e w' => e = .returned (.int .i64 (max a b)) ∧ w = w' := by
  by_cases h : b < a
  all_goals
    go_enter Try.func70, Try.ntmps70
    go_wp2
    go_ret
    exact ⟨ret_int (by omega), rfl⟩

theorem l1Least_any (a b : Int) (w : World) :
    Calls Try.prog 84 #[.int .i64 a, .int .i64 b] w fun e w' => e = .returned (.int .i64 (min a b)) ∧ w = w' := by
  by_cases h : a < b
  all_goals
    go_enter Try.func84, Try.ntmps84
    go_wp2
    go_ret
    exact ⟨ret_int (by omega), rfl⟩

theorem abs_any (n : Int) (w : World) (h1 : -9223372036854775807 ≤ n) (h2 : n ≤ 9223372036854775807) :
    Calls Try.prog 81 #[.int .i64 n] w fun e w' => e = .returned (.int .i64 (absI n)) ∧ w = w' := by
  go_enter Try.func81, Try.ntmps81
  go_wp2
  all_goals
    go_ret
    exact ⟨ret_int (by unfold absI; omega), rfl⟩

theorem gcd_any (a b : Int) (w : World) (ha : 0 ≤ a) (hb : 0 ≤ b) (ha2 : a ≤ 9223372036854775807) (hb2 : b ≤ 9223372036854775807) :
    Calls Try.prog 82 #[.int .i64 a, .int .i64 b] w fun e w' => e = .returned (.int .i64 (Int.gcd a b : Int)) ∧ ∃ n, w' = w.drewN n := by
  go_enter Try.func82, Try.ntmps82
  go_wp2
  go_loopw [0, 1] (fun s t wr => ∃ x y : Int, 0 ≤ x ∧ 0 ≤ y ∧ x ≤ 9223372036854775807 ∧ y ≤ 9223372036854775807 ∧ s = .int .i64 x ∧ t = .int .i64 y ∧ Hid (Int.gcd x y = Int.gcd a b) ∧ Hid (∃ n, wr = w.drewN n))
    (fun _ t _ => (intOf t).toNat)
  case atStart => exact ⟨a, b, ha, hb, ha2, hb2, rfl, rfl, rfl, ⟨0, rfl⟩⟩
  case round =>
    obtain ⟨x, y, hx, hy, hx2, hy2, rfl, rfl, hg, hn⟩ := hrel
    by_cases h0 : y = 0
    · subst h0
      go_wp2_with (go_at_call 81; refine (abs_any _ _ (by omega) (by omega)).mono ?_; rintro e w' ⟨rfl, rfl⟩)
      go_ret
      refine ⟨ret_int ?_, hn.out⟩
      rw [← hg.out, Int.gcd_zero]
      unfold absI; omega
    · have hlt : x % y < y := Int.emod_lt_of_pos x (by omega)
      have hge : 0 ≤ x % y := Int.emod_nonneg x h0
      have hz : (y == 0) = false := by simpa using h0
      go_wp2_with fail
      go_quiet (fail)
      go_wp2
      go_roundw
      case rel =>
        refine ⟨y, x % y, hy, hge, hy2, by omega, rfl, rfl, show Hid _ from by rw [gcd_step x y hx hy]; exact hg.out, ?_⟩
        obtain ⟨n, rfl⟩ := hn.out
        exact ⟨n + nq, World.drewN_drewN _ _ _⟩
      case measure => simp [intOf]; omega

theorem fraction_any (a b : Int) (w : World) (ha : 0 ≤ a) (hb : 0 < b) (ha2 : a ≤ 9223372036854775807) (hb2 : b ≤ 9223372036854775807) :
    Calls Try.prog 73 #[.int .i64 a, .int .i64 b] w fun e w' => e = .returned (.tuple #[.int .i64 (redN a b), .int .i64 (redD a b)]) ∧ ∃ n, w' = w.drewN n := by
  have hg : 0 < (Int.gcd a b : Int) := by
    have := Int.gcd_pos_of_ne_zero_right a (b := b) (by omega); omega
  have hc := gcd_any a b w ha (by omega) ha2 hb2
  unfold redN redD
  have H := Lib.hid hc
  clear hc
  generalize (Int.gcd a b : Int) = g at *
  have hz : (g == 0) = false := by simp; omega
  have hz' : ¬ g = 0 := by omega
  go_enter Try.func73, Try.ntmps73
  go_wp2_with fail
  refine H.out.mono ?_
  rintro e w' ⟨rfl, n, rfl⟩
  go_wp2_with fail
  go_quiet (fail)
  go_wp2
  go_ret2
  exact ⟨rfl, _, World.drewN_drewN _ _ _⟩

theorem l2Reduce_any (a b : Int) (w : World) (ha : 0 ≤ a) (hb : 0 < b) (ha2 : a ≤ 9223372036854775807) (hb2 : b ≤ 9223372036854775807) :
    Calls Try.prog 55 #[.int .i64 a, .int .i64 b] w fun e w' => e = .returned (.tuple #[.int .i64 (redN a b), .int .i64 (redD a b)]) ∧ ∃ n, w' = w.drewN n := by
  have hg : 0 < (Int.gcd a b : Int) := by
    have := Int.gcd_pos_of_ne_zero_right a (b := b) (by omega); omega
  unfold redN redD
  generalize hgg : (Int.gcd a b : Int) = g at *
  have Hg := Lib.hid hgg
  clear hgg
  have hz' : ¬ g = 0 := by omega
  go_enter Try.func55, Try.ntmps55
  go_wp2_with (go_at_call 70; refine (l1Most_any _ _ _).mono ?_; rintro e w' ⟨rfl, rfl⟩; rw [show max a (-a) = a by omega])
  go_loop [6, 7] (fun s t => ∃ x y : Int, 0 ≤ x ∧ 0 ≤ y ∧ x ≤ 9223372036854775807 ∧ y ≤ 9223372036854775807 ∧ s = .int .i64 x ∧ t = .int .i64 y ∧ Hid (Int.gcd x y = Int.gcd a b))
    (fun _ t => (intOf t).toNat)
  case atStart => exact ⟨a, b, ha, by omega, ha2, hb2, rfl, rfl, rfl⟩
  case round =>
    obtain ⟨x, y, hx, hy, hx2, hy2, rfl, rfl, hr⟩ := hrel
    by_cases h0 : y = 0
    · subst h0
      have hxg : x = g := by
        have h1 := hr.out
        rw [Int.gcd_zero] at h1
        have h2 := Hg.out
        omega
      subst hxg
      go_wp2_with fail
      go_quiet (fail)
      go_wp2
      go_ret2
      exact ⟨rfl, _, rfl⟩
    · have hlt : x % y < y := Int.emod_lt_of_pos x (by omega)
      have hge : 0 ≤ x % y := Int.emod_nonneg x h0
      have hz : (y == 0) = false := by simpa using h0
      go_wp2
      go_round
      case rel => exact ⟨y, x % y, hy, hge, hy2, by omega, rfl, rfl, show Hid _ from by rw [gcd_step x y hx hy]; exact hr.out⟩
      case measure => simp [intOf]; omega

end Go.Proofs.Ytaemdldpcpefbaa
