/-
  Contracts of the laws' own small functions: the same list twice, a number in a list, a long code. (Printed by gen_R1.py.)
-/
import Derived.Test.YtdadcbcanjmoeaaInts
namespace Go.Proofs.Ytdadcbcanjmoeaa
set_option linter.unusedVariables false
open Go.RowKit


theorem vBig_any (A : Option Addr) (n c : Nat) (w : World) (hn : n ≤ 9223372036854775807) :
    Calls Try.prog 53 #[.slice A n c] w fun e w' => e = .returned (.bool (decide (65536 < (n : Int)))) ∧ w = w' := by
  by_cases h : 65536 < (n : Int)
  all_goals
    go_enter Try.func53, Try.ntmps53
    go_wp2
    go_ret
    exact ⟨ret_bool (by simp [h]), rfl⟩


set_option maxHeartbeats 400000 in
theorem vInts_any (A A' : Option Addr) (c c' : Nat) (l : List Int) (w : World) (h : Rd encI 1 w w.heap.size A l) (h' : Rd encI 1 w w.heap.size A' l) (hl : l.length ≤ 1048576) :
    Calls Try.prog 55 #[.slice A l.length c, .slice A' l.length c'] w fun e w' => e = .returned (.bool true) ∧ Below w.heap.size w w' := by
  have hb : ((l.length : Int) != (l.length : Int)) = false := by simp
  go_enter Try.func55, Try.ntmps55
  go_wp2
  go_loopw [5] (fun i wr => ∃ k : Nat, k ≤ l.length ∧ i = .int .i64 k ∧ Below w.heap.size w wr) (fun i _ => l.length - (intOf i).toNat)
  case atStart => exact ⟨0, Nat.zero_le _, rfl, Below.refl _ _⟩
  case round =>
    obtain ⟨k, hk, rfl, hbl⟩ := hrel
    by_cases hlt : k < l.length
    · obtain ⟨b, off, rfl, hb1, c0⟩ := cellsI (h.below hbl) hlt
      obtain ⟨b', off', rfl, hb2, d0⟩ := cellsI (h'.below hbl) hlt
      generalize l[k] = x at *
      have hbb : (x != x) = false := by simp
      go_wp2_with fail
      go_quiet (fail)
      go_wp2
      go_roundw
      case rel => exact ⟨k + 1, by omega, by go_num, below_drewN hbl _⟩
      case measure => simp [intOf]; omega
    · go_wp2
      go_ret
      exact ⟨rfl, hbl⟩


set_option maxHeartbeats 400000 in
theorem vHas_any (A : Option Addr) (c : Nat) (l : List Int) (y : Int) (w : World) (B : Nat) (h : Rd encI 1 w B A l) (hl : l.length ≤ 1048576) :
    Calls Try.prog 56 #[.slice A l.length c, .int .i64 y] w fun e w' => e = .returned (.bool (l.any (· == y))) ∧ w = w' := by
  obtain ⟨r, hr⟩ : ∃ r, l.any (· == y) = r := ⟨_, rfl⟩
  rw [hr]
  have Hr := Lib.hid hr
  clear hr
  go_enter Try.func56, Try.ntmps56
  go_wp2
  go_loop [5] (fun i => ∃ k : Nat, k ≤ l.length ∧ i = .int .i64 k ∧ Hid ((l.take k).any (· == y) = false)) (fun i => l.length - (intOf i).toNat)
  case atStart => exact ⟨0, Nat.zero_le _, rfl, rfl⟩
  case round =>
    obtain ⟨k, hk, rfl, hq⟩ := hrel
    by_cases hlt : k < l.length
    · obtain ⟨b, off, rfl, hb, c0⟩ := cellsI h hlt
      have hhit : (l[k] == y) = true → r = true := fun h1 => by rw [← Hr.out]; exact any_true_of (· == y) l k hlt h1
      have hmiss : (l[k] == y) = false → (l.take (k + 1)).any (· == y) = false := fun h1 => by rw [any_take_succ (· == y) l k hlt, hq.out, h1]; rfl
      generalize l[k] = x at *
      have Hhit := Lib.hid hhit
      have Hmiss := Lib.hid hmiss
      clear hhit hmiss
      cases hv : (x == y) with
      | true =>
        have H1 := Lib.hid (Hhit.out hv)
        go_wp2
        go_ret
        exact ⟨ret_bool H1.out.symm, rfl⟩
      | false =>
        have H1 := Lib.hid (Hmiss.out hv)
        go_wp2
        go_round
        case rel => exact ⟨k + 1, by omega, by go_num, H1.out⟩
        case measure => simp [intOf]; omega
    · have hq' := hq.out
      rw [List.take_of_length_le (by omega), Hr.out] at hq'
      have H1 := Lib.hid hq'
      clear hq'
      go_wp2
      go_ret
      exact ⟨ret_bool H1.out.symm, rfl⟩

end Go.Proofs.Ytdadcbcanjmoeaa
