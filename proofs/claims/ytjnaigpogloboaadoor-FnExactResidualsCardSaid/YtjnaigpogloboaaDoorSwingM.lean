/-
  Marks over slices of Swing. (Printed by gen_list.py.)
-/
import Derived.Test.YtjnaigpogloboaaDoorSwing
import Derived.Test.YtjnaigpogloboaaDoorInts
namespace Go.Proofs.YtjnaigpogloboaaDoor
set_option linter.unusedVariables false
open Go.RowKit

/-- The marks k, k + 1 .. -/
def marksS (k : Int) (n : Nat) : List Swing := (List.range n).map fun i : Nat => ⟨k + i * 4, k + i * 4 + 1, k + i * 4 + 2, k + i * 4 + 3⟩
theorem marksS_len (k : Int) (n : Nat) : (marksS k n).length = n := by simp [marksS]
theorem marksS_get (k : Int) (n j : Nat) (hj : j < (marksS k n).length) : (marksS k n)[j] = ⟨k + j * 4, k + j * 4 + 1, k + j * 4 + 2, k + j * 4 + 3⟩ := by simp [marksS]

set_option maxRecDepth 100000 in
set_option maxHeartbeats 1000000 in
theorem markSS_any (A : Option Addr) (n c : Nat) (k0 : Int) (l : List Swing) (w : World) (base : Nat) (h : Own encS 4 w base 37 (.slice A n c) l) (hn : n ≤ 1048576) (hk0 : 0 ≤ k0) (hk1 : k0 ≤ 1000000000) :
    Calls Tryd.prog 33 #[.slice A n c, .int .i64 k0] w fun e w' => e = .returned (.int .i64 (k0 + n * 4)) ∧ Own encS 4 w' base 37 (.slice A n c) (marksS k0 n) ∧ w.grownBy w' (Value.ownBlock (.slice A n c)) := by
  rcases Nat.eq_zero_or_pos n with h0 | h0
  · subst h0
    have hl : l = [] := List.eq_nil_of_length_eq_zero h.len
    subst hl
    have Ho := Lib.hid h
    clear h
    go_enter Tryd.func33, Tryd.ntmps33
    go_wp2
    refine wp_loop_rounds 1 ?_
    rw [rounds_succ]
    go_wp2
    go_ret
    exact ⟨ret_int (by omega), Ho.out, only_refl _ _⟩
  · obtain ⟨g, cs, rfl, hb, hB, hs, hl, hnc, hm, _⟩ := h.blk h0
    have HB := Lib.hid hB
    have Hs := Lib.hid hs
    clear h hl hB hs
    go_enter Tryd.func33, Tryd.ntmps33
    go_wp2
    go_loopw [1, 5] (fun q i wr => ∃ (k : Nat) (z : Int), k ≤ n ∧ i = .int .i64 k ∧ q = .int .i64 z ∧ (0 ≤ z ∧ z = k0 + k * 4) ∧ ∃ cs : Array Value, Hid (Blk wr g 37 cs) ∧ Hid (cs.size = c * 4) ∧ Hid (∀ j x, j < k → (marksS k0 n)[j]? = some x → ∀ i v, (encS x)[i]? = some v → cs[j * 4 + i]? = some v) ∧ Hid (w.grownBy wr (some g)))
      (fun _ i _ => n - (intOf i).toNat)
    case atStart => exact ⟨0, k0, Nat.zero_le _, rfl, rfl, ⟨hk0, by simp⟩, cs, HB.out, Hs.out, fun j x hj => absurd hj (Nat.not_lt_zero _), only_refl _ _⟩
    case round =>
      obtain ⟨k, z, hk, rfl, rfl, ⟨hz0, hz1⟩, cs, hB, hs, hc, hgr⟩ := hrel
      have hzb : z ≤ 2000000000 := by omega
      have Hz := Lib.hid hz1
      clear hz1
      by_cases hlt : k < n
      · have hlm : k < (marksS k0 n).length := by rw [marksS_len]; exact hlt
        have hst := over_step encS_len (l := marksS k0 n) (cs := cs) (by rw [marksS_len, hs.out]; omega) hlm hc.out
        have hgk : (marksS k0 n)[k] = ⟨z, z + 1, z + 2, z + 3⟩ := by rw [marksS_get, Hz.out]
        rw [hgk] at hst
        have hst1 : ∀ j x, j < k + 1 → (marksS k0 n)[j]? = some x → ∀ i v, (encS x)[i]? = some v → (storeL cs (k * 4) (encS ⟨z, z + 1, z + 1 + 1, z + 1 + 1 + 1⟩))[j * 4 + i]? = some v := by
          have e : (⟨z, z + 1, z + 1 + 1, z + 1 + 1 + 1⟩ : Swing) = ⟨z, z + 1, z + 2, z + 3⟩ := by simp [Int.add_assoc]
          rw [e]; exact hst
        have h1 : k * 4 + 4 ≤ cs.size := by rw [hs.out]; omega
        have d0 := hB.out.cell (k * 4)
        have f0 := hB.out.frozen (k * 4)
        have d1 := hB.out.cell (k * 4 + 1)
        have f1 := hB.out.frozen (k * 4 + 1)
        have d2 := hB.out.cell (k * 4 + 2)
        have f2 := hB.out.frozen (k * 4 + 2)
        have d3 := hB.out.cell (k * 4 + 3)
        have f3 := hB.out.frozen (k * 4 + 3)
        rw [Array.getElem?_eq_getElem (by omega)] at d0 d1 d2 d3
        have Hst1 := Lib.hid hst1
        clear hst hst1 hgk
        go_wp2
        go_roundw
        case rel => exact ⟨k + 1, _, by omega, by go_num, rfl, ⟨by omega, by have := Hz.out; omega⟩, _, (((hB.out.set_ _ _).set_ _ _).set_ _ _).set_ _ _, by show Array.size _ = _; simp [hs.out], Hst1.out, only_setCell (only_setCell (only_setCell (only_setCell hgr.out (.inl rfl) _) (.inl rfl) _) (.inl rfl) _) (.inl rfl) _⟩
        case measure => simp [intOf]; omega
      · obtain rfl : k = n := by omega
        go_wp2
        go_ret
        refine ⟨ret_int Hz.out, Own.over encS_len hb hB.out hs.out (marksS_len _ _) hnc hm (fun j x hx i v hv => hc.out j x ?_ hx i v hv), hgr.out⟩
        have := (List.getElem?_eq_some_iff.1 hx).1
        rwa [marksS_len] at this

set_option maxRecDepth 100000 in
set_option maxHeartbeats 1000000 in
theorem heldSS_any (A : Option Addr) (n c : Nat) (k0 : Int) (w : World) (h : Rd encS 4 w w.heap.size A (marksS k0 n)) (hn : n ≤ 1048576) (hk0 : 0 ≤ k0) (hk1 : k0 ≤ 1000000000) :
    Calls Tryd.prog 38 #[.slice A n c, .int .i64 k0] w fun e w' => e = .returned (.int .i64 (k0 + n * 4)) ∧ w = w' := by
  go_enter Tryd.func38, Tryd.ntmps38
  go_wp2
  go_loop [1, 5] (fun q i => ∃ (k : Nat) (z : Int), k ≤ n ∧ i = .int .i64 k ∧ q = .int .i64 z ∧ (0 ≤ z ∧ z = k0 + k * 4)) (fun _ i => n - (intOf i).toNat)
  case atStart => exact ⟨0, k0, Nat.zero_le _, rfl, rfl, ⟨hk0, by simp⟩⟩
  case round =>
    obtain ⟨k, z, hk, rfl, rfl, ⟨hz0, hz1⟩⟩ := hrel
    have hzb : z ≤ 2000000000 := by omega
    have Hz := Lib.hid hz1
    clear hz1
    by_cases hlt : k < n
    · have hlm : k < (marksS k0 n).length := by rw [marksS_len]; exact hlt
      obtain ⟨b, off, rfl, hb1, c0, c1, c2, c3⟩ := cellsS h hlm
      have hgk : (marksS k0 n)[k] = ⟨z, z + 1, z + 2, z + 3⟩ := by rw [marksS_get, Hz.out]
      rw [hgk] at c0 c1 c2 c3
      simp only at c0 c1 c2 c3
      clear hgk
      have n1 : (z + 1 != z + 1) = false := by simp
      have n2 : (z + 2 != z + 1 + 1) = false := by simp [Int.add_assoc]
      have n3 : (z + 3 != z + 1 + 1 + 1) = false := by simp [Int.add_assoc]
      go_wp2
      go_round
      case rel => exact ⟨k + 1, _, by omega, by go_num, rfl, ⟨by omega, by have := Hz.out; omega⟩⟩
      case measure => simp [intOf]; omega
    · obtain rfl : k = n := by omega
      go_wp2
      go_ret
      exact ⟨ret_int Hz.out, rfl⟩

end Go.Proofs.YtjnaigpogloboaaDoor
