/-
  Marks over slices of Cube. (Printed by gen_list.py.)
-/
import Derived.Test.YtdadcbcanjmoeaaCube
import Derived.Test.YtdadcbcanjmoeaaInts
namespace Go.Proofs.Ytdadcbcanjmoeaa
set_option linter.unusedVariables false
open Go.RowKit

/-- The marks k, k + 1 .. -/
def marksC (k : Int) (n : Nat) : List Cube := (List.range n).map fun i : Nat => ⟨k + i * 5, k + i * 5 + 1, k + i * 5 + 2, k + i * 5 + 3, k + i * 5 + 4⟩
theorem marksC_len (k : Int) (n : Nat) : (marksC k n).length = n := by simp [marksC]
theorem marksC_get (k : Int) (n j : Nat) (hj : j < (marksC k n).length) : (marksC k n)[j] = ⟨k + j * 5, k + j * 5 + 1, k + j * 5 + 2, k + j * 5 + 3, k + j * 5 + 4⟩ := by simp [marksC]

set_option maxRecDepth 100000 in
set_option maxHeartbeats 1000000 in
theorem markCS_any (A : Option Addr) (n c : Nat) (k0 : Int) (l : List Cube) (w : World) (base : Nat) (h : Own encC 5 w base 25 (.slice A n c) l) (hn : n ≤ 1048576) (hk0 : 0 ≤ k0) (hk1 : k0 ≤ 1000000000) :
    Calls Try.prog 51 #[.slice A n c, .int .i64 k0] w fun e w' => e = .returned (.int .i64 (k0 + n * 5)) ∧ Own encC 5 w' base 25 (.slice A n c) (marksC k0 n) ∧ w.grownBy w' (Value.ownBlock (.slice A n c)) := by
  rcases Nat.eq_zero_or_pos n with h0 | h0
  · subst h0
    have hl : l = [] := List.eq_nil_of_length_eq_zero h.len
    subst hl
    have Ho := Lib.hid h
    clear h
    go_enter Try.func51, Try.ntmps51
    go_wp2
    refine wp_loop_rounds 1 ?_
    rw [rounds_succ]
    go_wp2
    go_ret
    exact ⟨ret_int (by omega), Ho.out, only_refl _ _⟩
  · obtain ⟨g, cs, rfl, hb, hB, hs, hl, hnc, hm, _⟩ := h.blk h0
    have HB := Lib.hid hB
    have Hs := Lib.hid hs
    clear h hl hB hs
    go_enter Try.func51, Try.ntmps51
    go_wp2
    go_loopw [1, 5] (fun q i wr => ∃ (k : Nat) (z : Int), k ≤ n ∧ i = .int .i64 k ∧ q = .int .i64 z ∧ (0 ≤ z ∧ z = k0 + k * 5) ∧ ∃ cs : Array Value, Hid (Blk wr g 25 cs) ∧ Hid (cs.size = c * 5) ∧ Hid (∀ j x, j < k → (marksC k0 n)[j]? = some x → ∀ i v, (encC x)[i]? = some v → cs[j * 5 + i]? = some v) ∧ Hid (w.grownBy wr (some g)))
      (fun _ i _ => n - (intOf i).toNat)
    case atStart => exact ⟨0, k0, Nat.zero_le _, rfl, rfl, ⟨hk0, by simp⟩, cs, HB.out, Hs.out, fun j x hj => absurd hj (Nat.not_lt_zero _), only_refl _ _⟩
    case round =>
      obtain ⟨k, z, hk, rfl, rfl, ⟨hz0, hz1⟩, cs, hB, hs, hc, hgr⟩ := hrel
      have hzb : z ≤ 2000000000 := by omega
      have Hz := Lib.hid hz1
      clear hz1
      by_cases hlt : k < n
      · have hlm : k < (marksC k0 n).length := by rw [marksC_len]; exact hlt
        have hst := over_step encC_len (l := marksC k0 n) (cs := cs) (by rw [marksC_len, hs.out]; omega) hlm hc.out
        have hgk : (marksC k0 n)[k] = ⟨z, z + 1, z + 2, z + 3, z + 4⟩ := by rw [marksC_get, Hz.out]
        rw [hgk] at hst
        have hst1 : ∀ j x, j < k + 1 → (marksC k0 n)[j]? = some x → ∀ i v, (encC x)[i]? = some v → (storeL cs (k * 5) (encC ⟨z, z + 1, z + 1 + 1, z + 1 + 1 + 1, z + 1 + 1 + 1 + 1⟩))[j * 5 + i]? = some v := by
          have e : (⟨z, z + 1, z + 1 + 1, z + 1 + 1 + 1, z + 1 + 1 + 1 + 1⟩ : Cube) = ⟨z, z + 1, z + 2, z + 3, z + 4⟩ := by simp [Int.add_assoc]
          rw [e]; exact hst
        have h1 : k * 5 + 5 ≤ cs.size := by rw [hs.out]; omega
        have d0 := hB.out.cell (k * 5)
        have f0 := hB.out.frozen (k * 5)
        have d1 := hB.out.cell (k * 5 + 1)
        have f1 := hB.out.frozen (k * 5 + 1)
        have d2 := hB.out.cell (k * 5 + 2)
        have f2 := hB.out.frozen (k * 5 + 2)
        have d3 := hB.out.cell (k * 5 + 3)
        have f3 := hB.out.frozen (k * 5 + 3)
        have d4 := hB.out.cell (k * 5 + 4)
        have f4 := hB.out.frozen (k * 5 + 4)
        rw [Array.getElem?_eq_getElem (by omega)] at d0 d1 d2 d3 d4
        have Hst1 := Lib.hid hst1
        clear hst hst1 hgk
        go_wp2
        go_roundw
        case rel => exact ⟨k + 1, _, by omega, by go_num, rfl, ⟨by omega, by have := Hz.out; omega⟩, _, ((((hB.out.set_ _ _).set_ _ _).set_ _ _).set_ _ _).set_ _ _, by show Array.size _ = _; simp [hs.out], Hst1.out, only_setCell (only_setCell (only_setCell (only_setCell (only_setCell hgr.out (.inl rfl) _) (.inl rfl) _) (.inl rfl) _) (.inl rfl) _) (.inl rfl) _⟩
        case measure => simp [intOf]; omega
      · obtain rfl : k = n := by omega
        go_wp2
        go_ret
        refine ⟨ret_int Hz.out, Own.over encC_len hb hB.out hs.out (marksC_len _ _) hnc hm (fun j x hx i v hv => hc.out j x ?_ hx i v hv), hgr.out⟩
        have := (List.getElem?_eq_some_iff.1 hx).1
        rwa [marksC_len] at this

set_option maxRecDepth 100000 in
set_option maxHeartbeats 1000000 in
theorem heldCS_any (A : Option Addr) (n c : Nat) (k0 : Int) (w : World) (h : Rd encC 5 w w.heap.size A (marksC k0 n)) (hn : n ≤ 1048576) (hk0 : 0 ≤ k0) (hk1 : k0 ≤ 1000000000) :
    Calls Try.prog 52 #[.slice A n c, .int .i64 k0] w fun e w' => e = .returned (.int .i64 (k0 + n * 5)) ∧ w = w' := by
  go_enter Try.func52, Try.ntmps52
  go_wp2
  go_loop [1, 5] (fun q i => ∃ (k : Nat) (z : Int), k ≤ n ∧ i = .int .i64 k ∧ q = .int .i64 z ∧ (0 ≤ z ∧ z = k0 + k * 5)) (fun _ i => n - (intOf i).toNat)
  case atStart => exact ⟨0, k0, Nat.zero_le _, rfl, rfl, ⟨hk0, by simp⟩⟩
  case round =>
    obtain ⟨k, z, hk, rfl, rfl, ⟨hz0, hz1⟩⟩ := hrel
    have hzb : z ≤ 2000000000 := by omega
    have Hz := Lib.hid hz1
    clear hz1
    by_cases hlt : k < n
    · have hlm : k < (marksC k0 n).length := by rw [marksC_len]; exact hlt
      obtain ⟨b, off, rfl, hb1, c0, c1, c2, c3, c4⟩ := cellsC h hlm
      have hgk : (marksC k0 n)[k] = ⟨z, z + 1, z + 2, z + 3, z + 4⟩ := by rw [marksC_get, Hz.out]
      rw [hgk] at c0 c1 c2 c3 c4
      simp only at c0 c1 c2 c3 c4
      clear hgk
      have n1 : (z + 1 != z + 1) = false := by simp
      have n2 : (z + 2 != z + 1 + 1) = false := by simp [Int.add_assoc]
      have n3 : (z + 3 != z + 1 + 1 + 1) = false := by simp [Int.add_assoc]
      have n4 : (z + 4 != z + 1 + 1 + 1 + 1) = false := by simp [Int.add_assoc]
      go_wp2
      go_round
      case rel => exact ⟨k + 1, _, by omega, by go_num, rfl, ⟨by omega, by have := Hz.out; omega⟩⟩
      case measure => simp [intOf]; omega
    · obtain rfl : k = n := by omega
      go_wp2
      go_ret
      exact ⟨ret_int Hz.out, rfl⟩

end Go.Proofs.Ytdadcbcanjmoeaa
