/-
  Marks over slices of TableRow. (Printed by gen_list.py.)
-/
import Derived.Test.YtjnaigpogloboaaDoorTableRow
import Derived.Test.YtjnaigpogloboaaDoorInts
namespace Go.Proofs.YtjnaigpogloboaaDoor
set_option linter.unusedVariables false
open Go.RowKit

/-- The marks k, k + 1 .. -/
def marksT (k : Int) (n : Nat) : List TableRow := (List.range n).map fun i : Nat => ⟨k + i * 2, k + i * 2 + 1⟩
theorem marksT_len (k : Int) (n : Nat) : (marksT k n).length = n := by simp [marksT]
theorem marksT_get (k : Int) (n j : Nat) (hj : j < (marksT k n).length) : (marksT k n)[j] = ⟨k + j * 2, k + j * 2 + 1⟩ := by simp [marksT]

set_option maxRecDepth 100000 in
set_option maxHeartbeats 1000000 in
theorem markTS_any (A : Option Addr) (n c : Nat) (k0 : Int) (l : List TableRow) (w : World) (base : Nat) (h : Own encT 2 w base 76 (.slice A n c) l) (hn : n ≤ 1048576) (hk0 : 0 ≤ k0) (hk1 : k0 ≤ 1000000000) :
    Calls Tryd.prog 32 #[.slice A n c, .int .i64 k0] w fun e w' => e = .returned (.int .i64 (k0 + n * 2)) ∧ Own encT 2 w' base 76 (.slice A n c) (marksT k0 n) ∧ w.grownBy w' (Value.ownBlock (.slice A n c)) := by
  rcases Nat.eq_zero_or_pos n with h0 | h0
  · subst h0
    have hl : l = [] := List.eq_nil_of_length_eq_zero h.len
    subst hl
    have Ho := Lib.hid h
    clear h
    go_enter Tryd.func32, Tryd.ntmps32
    go_wp2
    refine wp_loop_rounds 1 ?_
    rw [rounds_succ]
    go_wp2
    go_ret
    exact ⟨ret_int (by omega), Ho.out, only_refl _ _⟩
  · obtain ⟨g, cs, rfl, hb, hB, hs, hl, hnc, hm, _⟩ := h.blk h0
    have HB := Lib.hid hB
    have Hs := Lib.hid hs
    clear h hl hB hs
    go_enter Tryd.func32, Tryd.ntmps32
    go_wp2
    go_loopw [1, 5] (fun q i wr => ∃ (k : Nat) (z : Int), k ≤ n ∧ i = .int .i64 k ∧ q = .int .i64 z ∧ (0 ≤ z ∧ z = k0 + k * 2) ∧ ∃ cs : Array Value, Hid (Blk wr g 76 cs) ∧ Hid (cs.size = c * 2) ∧ Hid (∀ j x, j < k → (marksT k0 n)[j]? = some x → ∀ i v, (encT x)[i]? = some v → cs[j * 2 + i]? = some v) ∧ Hid (w.grownBy wr (some g)))
      (fun _ i _ => n - (intOf i).toNat)
    case atStart => exact ⟨0, k0, Nat.zero_le _, rfl, rfl, ⟨hk0, by simp⟩, cs, HB.out, Hs.out, fun j x hj => absurd hj (Nat.not_lt_zero _), only_refl _ _⟩
    case round =>
      obtain ⟨k, z, hk, rfl, rfl, ⟨hz0, hz1⟩, cs, hB, hs, hc, hgr⟩ := hrel
      have hzb : z ≤ 2000000000 := by omega
      have Hz := Lib.hid hz1
      clear hz1
      by_cases hlt : k < n
      · have hlm : k < (marksT k0 n).length := by rw [marksT_len]; exact hlt
        have hst := over_step encT_len (l := marksT k0 n) (cs := cs) (by rw [marksT_len, hs.out]; omega) hlm hc.out
        have hgk : (marksT k0 n)[k] = ⟨z, z + 1⟩ := by rw [marksT_get, Hz.out]
        rw [hgk] at hst
        have hst1 : ∀ j x, j < k + 1 → (marksT k0 n)[j]? = some x → ∀ i v, (encT x)[i]? = some v → (storeL cs (k * 2) (encT ⟨z, z + 1⟩))[j * 2 + i]? = some v := by
          have e : (⟨z, z + 1⟩ : TableRow) = ⟨z, z + 1⟩ := rfl
          rw [e]; exact hst
        have h1 : k * 2 + 2 ≤ cs.size := by rw [hs.out]; omega
        have d0 := hB.out.cell (k * 2)
        have f0 := hB.out.frozen (k * 2)
        have d1 := hB.out.cell (k * 2 + 1)
        have f1 := hB.out.frozen (k * 2 + 1)
        rw [Array.getElem?_eq_getElem (by omega)] at d0 d1
        have Hst1 := Lib.hid hst1
        clear hst hst1 hgk
        go_wp2
        go_roundw
        case rel => exact ⟨k + 1, _, by omega, by go_num, rfl, ⟨by omega, by have := Hz.out; omega⟩, _, (hB.out.set_ _ _).set_ _ _, by show Array.size _ = _; simp [hs.out], Hst1.out, only_setCell (only_setCell hgr.out (.inl rfl) _) (.inl rfl) _⟩
        case measure => simp [intOf]; omega
      · obtain rfl : k = n := by omega
        go_wp2
        go_ret
        refine ⟨ret_int Hz.out, Own.over encT_len hb hB.out hs.out (marksT_len _ _) hnc hm (fun j x hx i v hv => hc.out j x ?_ hx i v hv), hgr.out⟩
        have := (List.getElem?_eq_some_iff.1 hx).1
        rwa [marksT_len] at this

end Go.Proofs.YtjnaigpogloboaaDoor
