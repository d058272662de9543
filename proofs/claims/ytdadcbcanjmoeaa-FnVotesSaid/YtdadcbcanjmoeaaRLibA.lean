/-
  The same list of structs twice. (Printed by gen_R1.py.)
-/
import Derived.Test.YtdadcbcanjmoeaaArrival
import Derived.Test.YtdadcbcanjmoeaaRLib
namespace Go.Proofs.Ytdadcbcanjmoeaa
set_option linter.unusedVariables false
open Go.RowKit

set_option maxRecDepth 100000 in
set_option maxHeartbeats 1000000 in
theorem vArrivals_any (A A' : Option Addr) (c c' : Nat) (l : List Arrival) (w : World) (h : Rd encA 5 w w.heap.size A l) (h' : Rd encA 5 w w.heap.size A' l) (hl : l.length ≤ 1048576) :
    Calls Try.prog 60 #[.slice A l.length c, .slice A' l.length c'] w fun e w' => e = .returned (.bool true) ∧ Below w.heap.size w w' := by
  have hb : ((l.length : Int) != (l.length : Int)) = false := by simp
  go_enter Try.func60, Try.ntmps60
  go_wp2
  go_loopw [5] (fun i wr => ∃ k : Nat, k ≤ l.length ∧ i = .int .i64 k ∧ Below w.heap.size w wr) (fun i _ => l.length - (intOf i).toNat)
  case atStart => exact ⟨0, Nat.zero_le _, rfl, Below.refl _ _⟩
  case round =>
    obtain ⟨k, hk, rfl, hbl⟩ := hrel
    by_cases hlt : k < l.length
    · obtain ⟨b, off, rfl, hb1, c0, c1, c2, c3, c4⟩ := cellsA (h.below hbl) hlt
      obtain ⟨b', off', rfl, hb2, d0, d1, d2, d3, d4⟩ := cellsA (h'.below hbl) hlt
      generalize l[k] = x at *
      go_wp2_with fail
      go_quiet (fail)
      go_wp2
      go_roundw
      case rel => exact ⟨k + 1, by omega, by go_num, below_drewN hbl _⟩
      case measure => simp [intOf]; omega
    · go_wp2
      go_ret
      exact ⟨rfl, hbl⟩

end Go.Proofs.Ytdadcbcanjmoeaa
