/-
  Marks over slices of Pick. (Printed by gen_list.py.)
-/
import Derived.Test.YtiakaglgfboepaaPick
import Derived.Test.YtiakaglgfboepaaInts
namespace Go.Proofs.Ytiakaglgfboepaa
set_option linter.unusedVariables false
open Go.RowKit

/-- The marks k, k + 1 .. -/
def marksP (k : Int) (n : Nat) : List Pick := (List.range n).map fun i : Nat => ⟨k + i * 7, k + i * 7 + 1, k + i * 7 + 2, k + i * 7 + 3, k + i * 7 + 4, k + i * 7 + 5, k + i * 7 + 6⟩
theorem marksP_len (k : Int) (n : Nat) : (marksP k n).length = n := by simp [marksP]
theorem marksP_get (k : Int) (n j : Nat) (hj : j < (marksP k n).length) : (marksP k n)[j] = ⟨k + j * 7, k + j * 7 + 1, k + j * 7 + 2, k + j * 7 + 3, k + j * 7 + 4, k + j * 7 + 5, k + j * 7 + 6⟩ := by simp [marksP]

set_option maxRecDepth 100000 in
set_option maxHeartbeats 1000000 in
theorem markPS_any (A : Option Addr) (n c : Nat) (k0 : Int) (l : List Pick) (w : World) (base : Nat) (h : Own encP 7 w base 25 (.slice A n c) l) (hn : n ≤ 1048576) (hk0 : 0 ≤ k0) (hk1 : k0 ≤ 1000000000) :
    Calls Try.prog 31 #[.slice A n c, .int .i64 k0] w fun e w' => e = .returned (.int .i64 (k0 + n * 7)) ∧ Own encP 7 w' base 25 (.slice A n c) (marksP k0 n) ∧ w.grownBy w' (Value.ownBlock (.slice A n c)) := by
  rcases Nat.eq_zero_or_pos n with h0 | h0
  · subst h0
    have hl : l = [] := List.eq_nil_of_length_eq_zero h.len
    subst hl
    have Ho := Lib.hid h
    clear h
    go_enter Try.func31, Try.ntmps31
    go_wp2
    refine wp_loop_rounds 1 ?_
    rw [rounds_succ]
    go_wp2
    go_ret
    exact ⟨ret_int (by omega), Ho.out, only_refl _ _⟩
  · obtain ⟨g, cs, rfl, hb, hB, hs, hl, hnc, hm, _⟩ := h.blk h0
    have HB := Lib.hid hB
    have Hs := Lib.hid hs
    clear h hl hB hs
    go_enter Try.func31, Try.ntmps31
    go_wp2
    go_loopw [1, 5] (fun q i wr => ∃ (k : Nat) (z : Int), k ≤ n ∧ i = .int .i64 k ∧ q = .int .i64 z ∧ (0 ≤ z ∧ z = k0 + k * 7) ∧ ∃ cs : Array Value, Hid (Blk wr g 25 cs) ∧ Hid (cs.size = c * 7) ∧ Hid (∀ j x, j < k → (marksP k0 n)[j]? = some x → ∀ i v, (encP x)[i]? = some v → cs[j * 7 + i]? = some v) ∧ Hid (w.grownBy wr (some g)))
      (fun _ i _ => n - (intOf i).toNat)
    case atStart => exact ⟨0, k0, Nat.zero_le _, rfl, rfl, ⟨hk0, by simp⟩, cs, HB.out, Hs.out, fun j x hj => absurd hj (Nat.not_lt_zero _), only_refl _ _⟩
    case round =>
      obtain ⟨k, z, hk, rfl, rfl, ⟨hz0, hz1⟩, cs, hB, hs, hc, hgr⟩ := hrel
      have hzb : z ≤ 2000000000 := by omega
      have Hz := Lib.hid hz1
      clear hz1
      by_cases hlt : k < n
      · have hlm : k < (marksP k0 n).length := by rw [marksP_len]; exact hlt
        have hst := over_step encP_len (l := marksP k0 n) (cs := cs) (by rw [marksP_len, hs.out]; omega) hlm hc.out
        have hgk : (marksP k0 n)[k] = ⟨z, z + 1, z + 2, z + 3, z + 4, z + 5, z + 6⟩ := by rw [marksP_get, Hz.out]
        rw [hgk] at hst
        have hst1 : ∀ j x, j < k + 1 → (marksP k0 n)[j]? = some x → ∀ i v, (encP x)[i]? = some v → (storeL cs (k * 7) (encP ⟨z, z + 1, z + 1 + 1, z + 1 + 1 + 1, z + 1 + 1 + 1 + 1, z + 1 + 1 + 1 + 1 + 1, z + 1 + 1 + 1 + 1 + 1 + 1⟩))[j * 7 + i]? = some v := by
          have e : (⟨z, z + 1, z + 1 + 1, z + 1 + 1 + 1, z + 1 + 1 + 1 + 1, z + 1 + 1 + 1 + 1 + 1, z + 1 + 1 + 1 + 1 + 1 + 1⟩ : Pick) = ⟨z, z + 1, z + 2, z + 3, z + 4, z + 5, z + 6⟩ := by simp [Int.add_assoc]
          rw [e]; exact hst
        have h1 : k * 7 + 7 ≤ cs.size := by rw [hs.out]; omega
        have d0 := hB.out.cell (k * 7)
        have f0 := hB.out.frozen (k * 7)
        have d1 := hB.out.cell (k * 7 + 1)
        have f1 := hB.out.frozen (k * 7 + 1)
        have d2 := hB.out.cell (k * 7 + 2)
        have f2 := hB.out.frozen (k * 7 + 2)
        have d3 := hB.out.cell (k * 7 + 3)
        have f3 := hB.out.frozen (k * 7 + 3)
        have d4 := hB.out.cell (k * 7 + 4)
        have f4 := hB.out.frozen (k * 7 + 4)
        have d5 := hB.out.cell (k * 7 + 5)
        have f5 := hB.out.frozen (k * 7 + 5)
        have d6 := hB.out.cell (k * 7 + 6)
        have f6 := hB.out.frozen (k * 7 + 6)
        rw [Array.getElem?_eq_getElem (by omega)] at d0 d1 d2 d3 d4 d5 d6
        have Hst1 := Lib.hid hst1
        clear hst hst1 hgk
        go_wp2
        go_roundw
        case rel => exact ⟨k + 1, _, by omega, by go_num, rfl, ⟨by omega, by have := Hz.out; omega⟩, _, ((((((hB.out.set_ _ _).set_ _ _).set_ _ _).set_ _ _).set_ _ _).set_ _ _).set_ _ _, by show Array.size _ = _; simp [hs.out], Hst1.out, only_setCell (only_setCell (only_setCell (only_setCell (only_setCell (only_setCell (only_setCell hgr.out (.inl rfl) _) (.inl rfl) _) (.inl rfl) _) (.inl rfl) _) (.inl rfl) _) (.inl rfl) _) (.inl rfl) _⟩
        case measure => simp [intOf]; omega
      · obtain rfl : k = n := by omega
        go_wp2
        go_ret
        refine ⟨ret_int Hz.out, Own.over encP_len hb hB.out hs.out (marksP_len _ _) hnc hm (fun j x hx i v hv => hc.out j x ?_ hx i v hv), hgr.out⟩
        have := (List.getElem?_eq_some_iff.1 hx).1
        rwa [marksP_len] at this

set_option maxRecDepth 100000 in
set_option maxHeartbeats 1000000 in
theorem heldPS_any (A : Option Addr) (n c : Nat) (k0 : Int) (w : World) (h : Rd encP 7 w w.heap.size A (marksP k0 n)) (hn : n ≤ 1048576) (hk0 : 0 ≤ k0) (hk1 : k0 ≤ 1000000000) :
    Calls Try.prog 32 #[.slice A n c, .int .i64 k0] w fun e w' => e = .returned (.int .i64 (k0 + n * 7)) ∧ w = w' := by
  go_enter Try.func32, Try.ntmps32
  go_wp2
  go_loop [1, 5] (fun q i => ∃ (k : Nat) (z : Int), k ≤ n ∧ i = .int .i64 k ∧ q = .int .i64 z ∧ (0 ≤ z ∧ z = k0 + k * 7)) (fun _ i => n - (intOf i).toNat)
  case atStart => exact ⟨0, k0, Nat.zero_le _, rfl, rfl, ⟨hk0, by simp⟩⟩
  case round =>
    obtain ⟨k, z, hk, rfl, rfl, ⟨hz0, hz1⟩⟩ := hrel
    have hzb : z ≤ 2000000000 := by omega
    have Hz := Lib.hid hz1
    clear hz1
    by_cases hlt : k < n
    · have hlm : k < (marksP k0 n).length := by rw [marksP_len]; exact hlt
      obtain ⟨b, off, rfl, hb1, c0, c1, c2, c3, c4, c5, c6⟩ := cellsP h hlm
      have hgk : (marksP k0 n)[k] = ⟨z, z + 1, z + 2, z + 3, z + 4, z + 5, z + 6⟩ := by rw [marksP_get, Hz.out]
      rw [hgk] at c0 c1 c2 c3 c4 c5 c6
      simp only at c0 c1 c2 c3 c4 c5 c6
      clear hgk
      have n1 : (z + 1 != z + 1) = false := by simp
      have n2 : (z + 2 != z + 1 + 1) = false := by simp [Int.add_assoc]
      have n3 : (z + 3 != z + 1 + 1 + 1) = false := by simp [Int.add_assoc]
      have n4 : (z + 4 != z + 1 + 1 + 1 + 1) = false := by simp [Int.add_assoc]
      have n5 : (z + 5 != z + 1 + 1 + 1 + 1 + 1) = false := by simp [Int.add_assoc]
      have n6 : (z + 6 != z + 1 + 1 + 1 + 1 + 1 + 1) = false := by simp [Int.add_assoc]
      go_wp2
      go_round
      case rel => exact ⟨k + 1, _, by omega, by go_num, rfl, ⟨by omega, by have := Hz.out; omega⟩⟩
      case measure => simp [intOf]; omega
    · obtain rfl : k = n := by omega
      go_wp2
      go_ret
      exact ⟨ret_int Hz.out, rfl⟩

end Go.Proofs.Ytiakaglgfboepaa
