/-
  The same list of pairs twice. (Printed by gen_R2.py.)
-/
import Derived.Test.YtaemdldpcpefbaaLongest
import Derived.Test.YtaemdldpcpefbaaRLib
import Derived.ChangeKeysEq
import Derived.Laws.StructEq
namespace Go.Proofs.Ytaemdldpcpefbaa
set_option linter.unusedVariables false
open Go.RowKit

/-- Two arrays of two ints, '=='. -/
@[go_sem] theorem run_equalIn_2 (w : World) (d : Nat) (a b c e : Int) : (Op.equalIn (d + 2) 54 (.agg #[.int .i64 a, .int .i64 b]) (.agg #[.int .i64 c, .int .i64 e])).run Try.prog w = .ok (a == c && b == e) w := by
  obtain ⟨i0, hi, _, _, _⟩ := info_parts infoI
  have hc : Try.prog.cellsOf 3 = 1 := by kernel_rfl
  have h1 : ∀ (x y : Int), (part 3 #[.int .i64 x, .int .i64 y] 0).run Try.prog w = .ok (.int .i64 x) w := fun x y => by simp [go_sem]
  have h2 : ∀ (x y : Int), (part 3 #[.int .i64 x, .int .i64 y] 1).run Try.prog w = .ok (.int .i64 y) w := fun x y => by simp [go_sem]
  have h3 : ∀ (x y : Int), (Op.equalIn (d + 1) 3 (.int .i64 x) (.int .i64 y)).run Try.prog w = .ok (x == y) w := fun x y => run_equalIn_int w d _ _ _ _ _ Try.underlying3
  rw [run_equalIn_array w (d + 1) _ _ Try.underlying54 hi, hc]
  simp only [show List.range 2 = [0, 1] from rfl, Op.eqItems, Nat.mul_one, Sem.run_bind, h1, h3, Result.andThen_ok]
  by_cases h : a = c
  · by_cases h' : b = e <;> simp [h, h', h2, h3]
  · simp [h]
set_option maxRecDepth 100000 in
set_option maxHeartbeats 1000000 in
theorem vPairs_any (A A' : Option Addr) (c c' : Nat) (l : List (Int × Int)) (w : World) (h : Rd enc2 2 w w.heap.size A l) (h' : Rd enc2 2 w w.heap.size A' l) (hl : l.length ≤ 1048576) :
    Calls Try.prog 42 #[.slice A l.length c, .slice A' l.length c'] w fun e w' => e = .returned (.bool true) ∧ Below w.heap.size w w' := by
  have hb : ((l.length : Int) != (l.length : Int)) = false := by simp
  go_enter Try.func42, Try.ntmps42
  go_wp2
  go_loopw [5] (fun i wr => ∃ k : Nat, k ≤ l.length ∧ i = .int .i64 k ∧ Below w.heap.size w wr) (fun i _ => l.length - (intOf i).toNat)
  case atStart => exact ⟨0, Nat.zero_le _, rfl, Below.refl _ _⟩
  case round =>
    obtain ⟨k, hk, rfl, hbl⟩ := hrel
    by_cases hlt : k < l.length
    · obtain ⟨b, off, rfl, hb1, c0, c1⟩ := cells2 (h.below hbl) hlt
      obtain ⟨b', off', rfl, hb2, d0, d1⟩ := cells2 (h'.below hbl) hlt
      generalize l[k] = x at *
      go_wp2_with fail
      go_quiet (fail)
      go_wp2
      go_roundw
      case rel => exact ⟨k + 1, by omega, by go_num, below_drewN hbl _⟩
      case measure => simp [intOf]; omega
    · go_wp2
      go_ret
      exact ⟨rfl, hbl⟩

end Go.Proofs.Ytaemdldpcpefbaa
