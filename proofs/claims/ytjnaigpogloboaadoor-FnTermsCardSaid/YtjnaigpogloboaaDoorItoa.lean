/-
  The decimal numeral of a width.
-/
import Derived.Test.YtjnaigpogloboaaDoorPure
import Derived.Test.YtjnaigpogloboaaDoorSizeMath
import Derived.Test.YtjnaigpogloboaaDoorShelf
import Derived.Shelf.Strconv.Itoa3
import Derived.Lib.ItoaMem
import Derived.Lib.AppendIntMem
import Derived.Lib.SmallJoins
import Derived.Lib.LaidTab
namespace Go.Proofs.YtjnaigpogloboaaDoor
set_option linter.unusedVariables false
open Go.RowKit Go.Sort

/-- The library's table of powers lies in this world. -/
def Pow10 (W : World) : Prop := Lib.TabIs Tryd.prog W "internal/strconv.uint64pow10" .u64 Lib.pow10Tab
theorem strItoa_any (n : Nat) (hn : n ≤ 1000000) (W : World) (h : Pow10 W) :
    Calls Tryd.prog 89 #[.int .i64 n] W fun e w' => e = .returned (.string ⟨(Lib.decDigits n).toArray⟩) ∧ Below W.heap.size W w' := by
  refine (Any.strconv_Itoa Tryd.laysItoa (n : Int) (by omega) (by omega) W h).mono ?_
  rintro e w' ⟨rfl, k, os, rfl⟩
  exact ⟨by rw [Lib.itoa_nonneg], Lib.below_grow _ _ (Nat.le_refl _) _ _⟩
theorem strItoaSmall_any (n : Nat) (hn : n < 100) (W : World) :
    Calls Tryd.prog 89 #[.int .i64 n] W fun e w' => e = .returned (.string ⟨(Lib.decDigits n).toArray⟩) ∧ W = w' := by
  refine (Any.strconv_Itoa_small { Tryd.laysItoa with } n hn W).mono ?_
  rintro e w' ⟨rfl, rfl⟩
  exact ⟨rfl, rfl⟩
theorem itoa_any (n : Nat) (hn : n ≤ 1000000) (W : World) (h : Pow10 W) :
    Calls Tryd.prog 65 #[.int .i64 n] W fun e w' => e = .returned (.string ⟨(Lib.decDigits n).toArray⟩) ∧ Below W.heap.size W w' := by
  have H := Lib.hid (strItoa_any n hn W h)
  go_enter Tryd.func65, Tryd.ntmps65
  go_wp2_with (go_at_call 89; refine (H.out).mono ?_; rintro e w' ⟨rfl, hB⟩)
  go_ret
  exact ⟨rfl, hB⟩
theorem itoaSmall_any (n : Nat) (hn : n < 100) (W : World) :
    Calls Tryd.prog 65 #[.int .i64 n] W fun e w' => e = .returned (.string ⟨(Lib.decDigits n).toArray⟩) ∧ W = w' := by
  have H := Lib.hid (strItoaSmall_any n hn)
  go_enter Tryd.func65, Tryd.ntmps65
  go_wp2_with (go_at_call 89; refine (H.out _).mono ?_; rintro e w' ⟨rfl, rfl⟩)
  go_ret
  exact ⟨rfl, rfl⟩

/-- A numeral's first digit and length give the size. -/
theorem dec_size : ∀ (w : Nat), 1 ≤ w → w ≤ 1000000 → ∃ d r, Lib.decDigits w = d :: r ∧ (49 : Int) ≤ d.toNat ∧ (d.toNat : Int) ≤ 57 ∧ r.length ≤ 6 ∧ (szW w : Int) = 100 * r.length + 11 * ((d.toNat : Int) - 49) := by
  intro w
  induction w using Nat.strongRecOn with
  | ind w ih =>
    intro h1 h2
    by_cases h : w < 10
    · refine ⟨UInt8.ofNat (48 + w), [], Lib.decDigits_one h, ?_, ?_, by simp, ?_⟩
      all_goals
        have e : (UInt8.ofNat (48 + w)).toNat = 48 + w := by rw [UInt8.toNat_ofNat']; omega
        have e6 := szW_small h
        rw [e]
        first | omega | (simp only [List.length_nil]; omega)
    · obtain ⟨d, r, e1, e2, e3, e4, e5⟩ := ih (w / 10) (by omega) (by omega) (by omega)
      have l1 := Lib.decDigits_length w
      refine ⟨d, r ++ [UInt8.ofNat (48 + w % 10)], by rw [Lib.decDigits, dif_neg h, e1]; rfl, e2, e3, ?_, ?_⟩
      · have := szW_bd w h2
        rw [szW_big (by omega)] at this
        simp only [List.length_append, List.length_cons, List.length_nil]
        omega
      · rw [szW_big (by omega)]
        simp only [List.length_append, List.length_cons, List.length_nil]
        omega
end Go.Proofs.YtjnaigpogloboaaDoor
