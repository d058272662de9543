/-
  Contracts of the sides of cubes.
-/
import Derived.Test.YtdadcbcanjmoeaaPlace
import Derived.Test.YtdadcbcanjmoeaaCube
namespace Go.Proofs.Ytdadcbcanjmoeaa
set_option linter.unusedVariables false
open Go.RowKit

def sideB (s : Int) : Bool := s == 1 || s == 2 || s == 4 || s == 8 || s == 16 || s == 32 || s == 64 || s == 128 || s == 256 || s == 512
theorem sideB_in {s : Int} (h : sideB s = true) : 1 ≤ s ∧ s ≤ 512 := by simp [sideB] at h; omega

set_option maxRecDepth 100000 in
theorem side_bits_all : ∀ n : Fin 513, 1 ≤ n.val → (bits .and .i64 (n.val : Int) ((n.val : Int) - 1) == 0) = sideB (n.val : Int) := by decide +kernel
theorem side_bits {s : Int} (h : 1 ≤ s ∧ s ≤ 512) : (bits .and .i64 s (s - 1) == 0) = sideB s := by
  obtain ⟨n, rfl⟩ := Int.eq_ofNat_of_zero_le (show 0 ≤ s by omega)
  exact side_bits_all ⟨n, by omega⟩ (by show 1 ≤ n; omega)

theorem isSide_any (s : Int) (w : World) :
    Calls Try.prog 62 #[.int .i64 s] w fun e w' => e = .returned (.bool (sideB s)) ∧ w = w' := by
  cases k1 : inB s 1 512 with
  | false =>
    have hv : sideB s = false := by
      cases h : sideB s with
      | false => rfl
      | true => rw [inB_iff.2 (sideB_in h)] at k1; cases k1
    rw [hv]
    clear hv
    go_enter Try.func62, Try.ntmps62
    go_wp2_with (go_at_call 101; refine (in_any _ _ _ _).mono ?_; rintro e w' ⟨rfl, rfl⟩)
    go_ret
    exact ⟨rfl, rfl⟩
  | true =>
    have hr := inB_iff.1 k1
    go_enter Try.func62, Try.ntmps62
    go_wp2_with (go_at_call 101; refine (in_any _ _ _ _).mono ?_; rintro e w' ⟨rfl, rfl⟩)
    go_ret
    exact ⟨ret_bool (side_bits hr), rfl⟩

theorem l12Side_any (s : Int) (w : World) :
    Calls Try.prog 99 #[.int .i64 s] w fun e w' => e = .returned (.bool (sideB s)) ∧ w = w' := by
  go_enter Try.func99, Try.ntmps99
  go_wp2
  go_loopw [3] (fun i wr => ∃ v : Int, (v = 1 ∨ v = 2 ∨ v = 4 ∨ v = 8 ∨ v = 16 ∨ v = 32 ∨ v = 64 ∨ v = 128 ∨ v = 256 ∨ v = 512 ∨ v = 1024) ∧ i = .int .i64 v ∧ Hid (∀ u : Int, sideB u = true → u < v → s ≠ u) ∧ Hid (w = wr))
    (fun i _ => (1024 - intOf i).toNat)
  case atStart => exact ⟨1, by omega, rfl, fun u hu hlt => by have := sideB_in hu; omega, rfl⟩
  case round =>
    obtain ⟨v, hv, rfl, hq, hw⟩ := hrel
    by_cases hlt : v ≤ 512
    · have hsv : sideB v = true := by simp [sideB]; omega
      have hne : ∀ u : Int, sideB u = true → u < 2 * v → s ≠ v → s ≠ u := by
        intro u hu h2 hn
        by_cases hc : u < v
        · exact hq.out u hu hc
        · have : u = v := by simp [sideB] at hu; omega
          omega
      have Hne := Lib.hid hne
      clear hne
      by_cases hs : s = v
      · go_wp2
        go_ret
        have := hw.out
        subst this
        subst hs
        exact ⟨ret_bool hsv.symm, rfl⟩
      · go_wp2
        go_roundw
        case rel => exact ⟨2 * v, by omega, by go_num, fun u hu h2 => Hne.out u hu h2 hs, hw⟩
        case measure => simp [intOf]; omega
    · have hs : sideB s = false := by
        cases h : sideB s with
        | false => rfl
        | true => exact absurd rfl (hq.out s h (by have := sideB_in h; omega))
      have Hs := Lib.hid hs
      clear hs
      go_wp2
      go_ret
      exact ⟨ret_bool Hs.out.symm, hw.out⟩

end Go.Proofs.Ytdadcbcanjmoeaa
