/-
  The size of a width, in the program and in the reference.
-/
import Derived.Test.YtjnaigpogloboaaDoorItoa
import Derived.Test.YtjnaigpogloboaaDoorFar
namespace Go.Proofs.YtjnaigpogloboaaDoor
set_option linter.unusedVariables false
open Go.RowKit Go.Sort


theorem wr_in (n : Int) (h : -9223372036854775808 ≤ n ∧ n ≤ 9223372036854775807) : wrap64 n = n := by unfold wrap64; omega
theorem sizeOfI_any (n : Nat) (h1 : 1 ≤ n) (hn : n ≤ 1000000) (W : World) (h : Pow10 W) :
    Calls Tryd.prog 59 #[.int .i64 n] W fun e w' => e = .returned (.int .i64 (szW n)) ∧ Below W.heap.size W w' := by
  have H := Lib.hid (itoa_any n hn W h)
  obtain ⟨d, r, e1, e2, e3, e4, e5⟩ := dec_size n h1 hn
  rw [e1] at H
  go_enter Tryd.func59, Tryd.ntmps59
  go_wp2_with (go_at_call 65; refine (H.out).mono ?_; rintro e w' ⟨rfl, hB⟩)
  go_ret
  refine ⟨?_, hB⟩
  show Ending.returned (Value.int .i64 (wrap64 (100 * (r.length : Int) + wrap64 (11 * wrap64 (wrap64 (d.toNat : Int) - 49))))) = _
  rw [wr_in (d.toNat : Int) (by omega), wr_in ((d.toNat : Int) - 49) (by omega), wr_in (11 * ((d.toNat : Int) - 49)) (by omega), wr_in _ (by omega), e5]

/-- The reference counts the tens. -/
theorem l11Size_any (n : Nat) (h1 : 1 ≤ n) (hn : n ≤ 1000000) (W : World) :
    Calls Tryd.prog 57 #[.int .i64 n] W fun e w' => e = .returned (.int .i64 (szW n)) ∧ W = w' := by
  have hb := szW_bd n hn
  go_enter Tryd.func57, Tryd.ntmps57
  go_wp2
  go_loop [0, 3] (fun t s => ∃ m k : Nat, 1 ≤ m ∧ m ≤ n ∧ k ≤ 600 ∧ Hid (k + szW m = szW n) ∧ t = .int .i64 m ∧ s = .int .i64 k) (fun t _ => (intOf t).toNat)
  case atStart => exact ⟨n, 0, h1, Nat.le_refl _, by omega, by show 0 + szW n = szW n; omega, rfl, rfl⟩
  case round =>
    obtain ⟨m, k, m1, m2, k1, hk, rfl, rfl⟩ := hrel
    by_cases g : (10 : Int) ≤ m
    · have e2 := Lib.hid (szW_big (w := m) (by omega))
      have e4 := szW_bd (m / 10) (by omega)
      have e3 : k ≤ 500 := by have := hk.out; have := e2.out; omega
      go_wp2
      go_round
      case rel => exact ⟨m / 10, k + 100, by omega, by omega, by omega, by show k + 100 + szW (m / 10) = szW n; have := hk.out; have := e2.out; omega, by rw [show ((m / 10 : Nat) : Int) = (m : Int) / 10 by omega], by congr 1⟩
      case measure => simp [intOf]; omega
    · have e2 := Lib.hid (szW_small (w := m) (by omega))
      go_wp2
      go_ret
      exact ⟨ret_int (by have := hk.out; have := e2.out; omega), rfl⟩

/-- What SizeOf tells. -/
def szOut (n : Int) : Int × Bool := if inB n 1 1000000 then ((szW n.toNat : Nat), true) else (0, false)
theorem inB_true {n a b : Int} (h : inB n a b = true) : a ≤ n ∧ n ≤ b := by simpa [inB] using h
theorem iSizeOf_any (n : Int) (W : World) (h : Pow10 W) :
    Calls Tryd.prog 13 #[.int .i64 n] W fun e w' => e = .returned (.tuple #[.int .i64 (szOut n).1, .bool (szOut n).2]) ∧ Below W.heap.size W w' := by
  have H := Lib.hid (isWidth_any n)
  unfold szOut
  cases hb : inB n 1 1000000
  · rw [hb] at H
    go_enter Tryd.func13, Tryd.ntmps13
    go_wp2_with (go_at_call 58; refine (H.out _).mono ?_; rintro e w' ⟨rfl, rfl⟩)
    go_ret2
    exact ⟨rfl, Below.refl _ _⟩
  · obtain ⟨h1, h2⟩ := inB_true hb
    obtain ⟨m, rfl⟩ : ∃ m : Nat, n = m := ⟨n.toNat, by omega⟩
    have H2 := Lib.hid (sizeOfI_any m (by omega) (by omega) W h)
    rw [hb] at H
    go_enter Tryd.func13, Tryd.ntmps13
    go_wp2_with (first | (go_at_call 58; refine (H.out _).mono ?_; rintro e w' ⟨rfl, rfl⟩) | (go_at_call 59; refine (H2.out).mono ?_; rintro e w' ⟨rfl, hB⟩))
    go_ret2
    exact ⟨rfl, hB⟩
theorem sSizeOf_any (n : Int) (W : World) :
    Calls Tryd.prog 12 #[.int .i64 n] W fun e w' => e = .returned (.tuple #[.int .i64 (szOut n).1, .bool (szOut n).2]) ∧ W = w' := by
  have H := Lib.hid (l11Width_any n)
  unfold szOut
  cases hb : inB n 1 1000000
  · rw [hb] at H
    go_enter Tryd.func12, Tryd.ntmps12
    go_wp2_with (go_at_call 56; refine (H.out _).mono ?_; rintro e w' ⟨rfl, rfl⟩)
    go_ret2
    exact ⟨rfl, rfl⟩
  · obtain ⟨h1, h2⟩ := inB_true hb
    obtain ⟨m, rfl⟩ : ∃ m : Nat, n = m := ⟨n.toNat, by omega⟩
    have H2 := Lib.hid (l11Size_any m (by omega) (by omega))
    rw [hb] at H
    go_enter Tryd.func12, Tryd.ntmps12
    go_wp2_with (first | (go_at_call 56; refine (H.out _).mono ?_; rintro e w' ⟨rfl, rfl⟩) | (go_at_call 57; refine (H2.out _).mono ?_; rintro e w' ⟨rfl, rfl⟩))
    go_ret2
    exact ⟨rfl, rfl⟩

theorem law_SizeOf (n : Int) (W : World) (_ : (Lit.int .i64 n).wf = true) (h : Pow10 W) :
    Calls Tryd.prog 3 #[.int .i64 n] W fun e w' => e = .returned (.bool true) ∧ Below W.heap.size W w' := by
  have H1 := Lib.hid (sSizeOf_any n)
  have H2 := Lib.hid (iSizeOf_any n W h)
  generalize (szOut n).1 = a at H1 H2
  generalize (szOut n).2 = b at H1 H2
  go_enter Tryd.func3, Tryd.ntmps3
  go_wp2_with (first | (go_at_call 12; refine (H1.out _).mono ?_; rintro e w' ⟨rfl, rfl⟩) | (go_at_call 13; refine (H2.out).mono ?_; rintro e w' ⟨rfl, hB⟩))
  all_goals go_ret
  all_goals first | exact ⟨rfl, hB⟩ | skip
end Go.Proofs.YtjnaigpogloboaaDoor
