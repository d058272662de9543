/-
  Contracts of the laws' own small functions: the same list twice, a number in a list, a long code. (Printed by gen_R1.py.)
-/
import Derived.Test.YtaemdldpcpefbaaInts
namespace Go.Proofs.Ytaemdldpcpefbaa
set_option linter.unusedVariables false
open Go.RowKit


theorem vBig_any (A : Option Addr) (n c : Nat) (w : World) (hn : n ≤ 9223372036854775807) :
    Calls Try.prog 40 #[.slice A n c] w fun e w' => e = .returned (.bool (decide (65536 < (n : Int)))) ∧ w = w' := by
  by_cases h : 65536 < (n : Int)
  all_goals
    go_enter Try.func40, Try.ntmps40
    go_wp2
    go_ret
    exact ⟨ret_bool (by simp [h]), rfl⟩


set_option maxHeartbeats 400000 in
theorem vInts_any (A A' : Option Addr) (c c' : Nat) (l : List Int) (w : World) (h : Rd encI 1 w w.heap.size A l) (h' : Rd encI 1 w w.heap.size A' l) (hl : l.length ≤ 1048576) :
    Calls Try.prog 43 #[.slice A l.length c, .slice A' l.length c'] w fun e w' => e = .returned (.bool true) ∧ Below w.heap.size w w' := by
  have hb : ((l.length : Int) != (l.length : Int)) = false := by simp
  go_enter Try.func43, Try.ntmps43
  go_wp2
  go_loopw [5] (fun i wr => ∃ k : Nat, k ≤ l.length ∧ i = .int .i64 k ∧ Below w.heap.size w wr) (fun i _ => l.length - (intOf i).toNat)
  case atStart => exact ⟨0, Nat.zero_le _, rfl, Below.refl _ _⟩
  case round =>
    obtain ⟨k, hk, rfl, hbl⟩ := hrel
    by_cases hlt : k < l.length
    · obtain ⟨b, off, rfl, hb1, c0⟩ := cellsI (h.below hbl) hlt
      obtain ⟨b', off', rfl, hb2, d0⟩ := cellsI (h'.below hbl) hlt
      generalize l[k] = x at *
      have hbb : (x != x) = false := by simp
      go_wp2_with fail
      go_quiet (fail)
      go_wp2
      go_roundw
      case rel => exact ⟨k + 1, by omega, by go_num, below_drewN hbl _⟩
      case measure => simp [intOf]; omega
    · go_wp2
      go_ret
      exact ⟨rfl, hbl⟩



end Go.Proofs.Ytaemdldpcpefbaa
