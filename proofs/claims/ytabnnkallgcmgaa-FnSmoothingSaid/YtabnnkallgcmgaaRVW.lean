/-
  A number's size; the elements of a list in another one. (Printed by gen_R2.py.)
-/
import Derived.Test.YtabnnkallgcmgaaRLib
namespace Go.Proofs.Ytabnnkallgcmgaa
set_option linter.unusedVariables false
open Go.RowKit

theorem vSize_any (n : Int) (w : World) (h1 : -9223372036854775807 ≤ n) (h2 : n ≤ 9223372036854775807) :
    Calls Try.prog 25 #[.int .i64 n] w fun e w' => e = .returned (.int .i64 (absI n)) ∧ w = w' := by
  by_cases h : n < 0
  · go_enter Try.func25, Try.ntmps25
    go_wp2
    go_ret
    exact ⟨ret_int (by unfold absI; omega), rfl⟩
  · go_enter Try.func25, Try.ntmps25
    go_wp2
    go_ret
    exact ⟨ret_int (by unfold absI; omega), rfl⟩
set_option maxHeartbeats 400000 in
theorem vWithin_any (A A' : Option Addr) (c c' : Nat) (l m : List Int) (w : World) (B B' : Nat) (h : Rd encI 1 w B A l) (h' : Rd encI 1 w B' A' m) (hl : l.length ≤ 1048576) (hm : m.length ≤ 1048576) (hin : ∀ x ∈ l, m.any (· == x) = true) :
    Calls Try.prog 36 #[.slice A l.length c, .slice A' m.length c'] w fun e w' => e = .returned (.bool true) ∧ w = w' := by
  go_enter Try.func36, Try.ntmps36
  go_wp2
  go_loop [5] (fun i => ∃ k : Nat, k ≤ l.length ∧ i = .int .i64 k) (fun i => l.length - (intOf i).toNat)
  case atStart => exact ⟨0, Nat.zero_le _, rfl⟩
  case round =>
    obtain ⟨k, hk, rfl⟩ := hrel
    by_cases hlt : k < l.length
    · have hv := Lib.hid (hin l[k] (List.getElem_mem hlt))
      obtain ⟨b, off, rfl, hb1, c0⟩ := cellsI h hlt
      generalize l[k] = x at *
      go_wp2_with (go_at_call 69; refine (vHas_any A' c' m x _ _ h' hm).mono ?_; rintro e w' ⟨rfl, rfl⟩; rw [hv.out])
      go_round
      case rel => exact ⟨k + 1, by omega, by go_num⟩
      case measure => simp [intOf]; omega
    · go_wp2
      go_ret
      exact ⟨rfl, rfl⟩

end Go.Proofs.Ytabnnkallgcmgaa
