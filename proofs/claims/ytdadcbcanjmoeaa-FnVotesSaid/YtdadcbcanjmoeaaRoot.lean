/-
  Contracts of the roots and of the ticks that fit.
-/
import Derived.Test.YtdadcbcanjmoeaaIsArr
import Derived.Test.YtdadcbcanjmoeaaRtMath
import Derived.Test.YtdadcbcanjmoeaaReach
namespace Go.Proofs.Ytdadcbcanjmoeaa
set_option linter.unusedVariables false
open Go.RowKit

theorem lt_sq_succ {n : Int} (h : 0 ≤ n) : n < (n + 1) * (n + 1) := by
  have h1 : (n + 1) * 1 ≤ (n + 1) * (n + 1) := Int.mul_le_mul_of_nonneg_left (by omega) (by omega)
  omega

set_option maxHeartbeats 400000 in
theorem root_any (n : Int) (w : World) (h0 : 0 ≤ n) (h1 : n ≤ 798400800) :
    Calls Try.prog 112 #[.int .i64 n] w fun e w' => e = .returned (.tuple #[.int .i64 (rt n), .bool (rt n * rt n == n)]) ∧ w = w' := by
  go_enter Try.func112, Try.ntmps112
  go_wp2
  go_loop [4, 5] (fun u v => ∃ a b : Int, 0 ≤ a ∧ a < b ∧ b ≤ n + 1 ∧ Hid (a * a ≤ n) ∧ Hid (n < b * b) ∧ u = .int .i64 a ∧ v = .int .i64 b) (fun u v => (intOf v - intOf u).toNat)
  case atStart => exact ⟨0, n + 1, by omega, by omega, by omega, by show (0 : Int) * 0 ≤ n; omega, lt_sq_succ h0, rfl, rfl⟩
  case round =>
    obtain ⟨a, b, ha, hab, hb, h2, h3, rfl, rfl⟩ := hrel
    by_cases hlt : 1 < b - a
    · have hm0 : ((a + b) / 2 == 0) = false := by simp; omega
      have hm1 : 0 < (a + b) / 2 := by omega
      have hm2 : (a + b) / 2 < b := by omega
      have hm3 : a < (a + b) / 2 := by omega
      have hdv := Int.ediv_nonneg h0 (show 0 ≤ (a + b) / 2 by omega)
      have hdu : n / ((a + b) / 2) ≤ n := Int.ediv_le_self _ h0
      have hiff := Lib.hid (Int.le_ediv_iff_mul_le (a := (a + b) / 2) (b := n) hm1)
      by_cases hq : (a + b) / 2 ≤ n / ((a + b) / 2)
      · go_wp2
        go_round
        case rel => exact ⟨(a + b) / 2, b, by omega, by omega, by omega, hiff.out.1 hq, h3, rfl, rfl⟩
        case measure => simp [intOf]; omega
      · go_wp2
        go_round
        case rel => exact ⟨a, (a + b) / 2, by omega, by omega, by omega, h2, by have := mt hiff.out.2 hq; show n < _; omega, rfl, rfl⟩
        case measure => simp [intOf]; omega
    · obtain rfl : b = a + 1 := by omega
      have hr := Lib.hid (rt_unique ha h2.out h3.out)
      have k1 := h2.out
      have k2 := Int.mul_nonneg ha ha
      go_wp2
      go_ret2
      rw [hr.out]
      exact ⟨rfl, rfl⟩

set_option maxHeartbeats 400000 in
theorem l10Root_any (n : Int) (w : World) (h0 : 0 ≤ n) (h1 : n ≤ 798400800) :
    Calls Try.prog 109 #[.int .i64 n] w fun e w' => e = .returned (.int .i64 (rt n)) ∧ w = w' := by
  obtain ⟨r0, r1⟩ := rt_bd h0 h1
  obtain ⟨r, hr⟩ : ∃ r, rt n = r := ⟨_, rfl⟩
  have hsq : ∀ m : Int, 0 ≤ m → (m * m ≤ n ↔ m ≤ r) := fun m hm => by rw [← hr]; exact (rt_le h0 hm).symm
  rw [hr] at r0 r1 ⊢
  have Hsq := Lib.hid hsq
  clear hsq hr
  go_enter Try.func109, Try.ntmps109
  go_wp2
  go_loop [3, 4] (fun u v => ∃ a b : Int, 0 ≤ a ∧ a ≤ r ∧ r ≤ b ∧ b ≤ 40000 ∧ u = .int .i64 a ∧ v = .int .i64 b) (fun u v => (intOf v - intOf u).toNat)
  case atStart => exact ⟨0, 40000, by omega, by omega, by omega, by omega, rfl, rfl⟩
  case round =>
    obtain ⟨a, b, ha, hab, hb, h2, rfl, rfl⟩ := hrel
    by_cases hlt : a < b
    · have hm1 : 0 ≤ (a + b + 1) / 2 := by omega
      have hm2 : (a + b + 1) / 2 ≤ 40000 := by omega
      have hm3 := Int.mul_nonneg hm1 hm1
      have hm4 : (a + b + 1) / 2 * ((a + b + 1) / 2) ≤ 40000 * 40000 := Int.mul_le_mul hm2 hm2 hm1 (by omega)
      have hiff := Lib.hid (Hsq.out _ hm1)
      by_cases hq : (a + b + 1) / 2 * ((a + b + 1) / 2) ≤ n
      · go_wp2
        go_round
        case rel => exact ⟨(a + b + 1) / 2, b, by omega, hiff.out.1 hq, by omega, by omega, rfl, rfl⟩
        case measure => simp [intOf]; omega
      · go_wp2
        go_round
        case rel => exact ⟨a, (a + b + 1) / 2 - 1, by omega, by omega, by have := mt hiff.out.2 hq; omega, by omega, rfl, rfl⟩
        case measure => simp [intOf]; omega
    · obtain rfl : a = r := by omega
      go_wp2
      go_ret
      exact ⟨rfl, rfl⟩

theorem l10Square_any (x y u v : Int) (w : World) (hx : 0 ≤ x ∧ x ≤ 999) (hy : 0 ≤ y ∧ y ≤ 999) (hu : 0 ≤ u ∧ u ≤ 999) (hv : 0 ≤ v ∧ v ≤ 999) :
    Calls Try.prog 108 #[.int .i64 x, .int .i64 y, .int .i64 u, .int .i64 v] w fun e w' => e = .returned (.int .i64 (s400 x y u v)) ∧ w = w' := by
  have h1 := sq_of (d := x - u) (by omega) (by omega)
  have h2 := sq_of (d := y - v) (by omega) (by omega)
  go_enter Try.func108, Try.ntmps108
  go_wp2
  go_ret
  exact ⟨rfl, rfl⟩

end Go.Proofs.Ytdadcbcanjmoeaa
