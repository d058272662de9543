/-
  Contracts of WeightBound. (Printed by gen_F7.py.)
-/
import Derived.Test.YtabnnkallgcmgaaFlMath
namespace Go.Proofs.Ytabnnkallgcmgaa
set_option linter.unusedVariables false
open Go.RowKit

theorem l2SizeF_any (n : Int) (w : World) (h1 : -9223372036854775807 ≤ n) (h2 : n ≤ 9223372036854775807) :
    Calls Try.prog 68 #[.int .i64 n] w fun e w' => e = .returned (.int .i64 (absI n)) ∧ w = w' := by
  go_enter Try.func68, Try.ntmps68
  go_wp2_with (go_at_call 45; refine (l1Most_any _ _ _).mono ?_; rintro e w' ⟨rfl, rfl⟩)
  go_ret
  exact ⟨rfl, rfl⟩

set_option maxRecDepth 100000 in
set_option maxHeartbeats 1000000 in
theorem WeightBound_any (A : Option Addr) (c : Nat) (l : List Int) (w : World) (h : Rd encI 1 w w.heap.size A l) (hl : l.length ≤ 1048576) :
    Calls Try.prog 24 #[.slice A l.length c] w fun e w' => e = .returned (.tuple #[.int .i64 (wbV l), .bool (goodW l)]) ∧ Below w.heap.size w w' := by
  have HG := Lib.hid (areWeights_any A c l w h hl)
  cases hk : goodW l with
  | false =>
    have hm0 : wbV l = 0 := by unfold wbV; rw [hk]; rfl
    rw [hm0]
    go_enter Try.func24, Try.ntmps24
    go_wp2_with fail
    refine HG.out.mono ?_
    rintro e w1 ⟨rfl, hb1⟩
    rw [hk]
    go_wp2
    go_ret2
    exact ⟨rfl, hb1⟩
  | true =>
    obtain ⟨⟨hl1, hl5⟩, hw⟩ := goodW_iff.1 hk
    have hm : wbV l = 100000 * sumS l l.length := by unfold wbV; rw [if_pos hk]
    have hsb := fun k hk => sumS_bd (ws := l) hw k hk
    have Hsb := Lib.hid hsb
    have Hm := Lib.hid hm
    clear hsb hm
    go_enter Try.func24, Try.ntmps24
    go_wp2_with fail
    refine HG.out.mono ?_
    rintro e w1 ⟨rfl, hb1⟩
    rw [hk]
    have hr1 : Rd encI 1 w1 w1.heap.size A l := h.after hb1
    go_wp2
    go_loop [4, 12] (fun t i => ∃ k : Nat, k ≤ l.length ∧ i = .int .i64 k ∧ t = .int .i64 (sumS l k)) (fun _ i => l.length - (intOf i).toNat)
    case atStart => exact ⟨0, Nat.zero_le _, rfl, rfl⟩
    case round =>
      obtain ⟨k, hkl, rfl, rfl⟩ := hrel
      have hs0 := Hsb.out k hkl
      by_cases hlt : k < l.length
      · have hs1 : sumS l (k + 1) = sumS l k + absI l[k] := by show sumS l k + absI (l.getD k 0) = _; rw [getD0 hlt]
        obtain ⟨b, off, rfl, hb, c0⟩ := cellsI hr1 hlt
        have hx := hw _ (List.getElem_mem hlt)
        have ha := absI_bd hx
        generalize l[k] = x at *
        obtain ⟨hx0, hx1⟩ := hx
        have Hs := Lib.hid hs1
        have habs := fun W => abs_any x W (by omega) (by omega)
        generalize sumS l k = S at *
        generalize absI x = y at *
        have HA := Lib.hid habs
        clear hs1 habs
        go_wp2_with (go_at_call 65; refine (HA.out _).mono ?_; rintro e w' ⟨rfl, rfl⟩)
        go_round
        case rel => exact ⟨k + 1, by omega, by go_num, by rw [Hs.out]⟩
        case measure => simp [intOf]; omega
      · have hke : k = l.length := by omega
        subst hke
        have H1 := Lib.hid Hm.out
        go_wp2
        go_ret2
        rw [H1.out]
        exact ⟨rfl, hb1⟩

set_option maxRecDepth 100000 in
set_option maxHeartbeats 1000000 in
theorem sWeightBound_any (A : Option Addr) (c : Nat) (l : List Int) (w : World) (h : Rd encI 1 w w.heap.size A l) (hl : l.length ≤ 1048576) :
    Calls Try.prog 31 #[.slice A l.length c] w fun e w' => e = .returned (.tuple #[.int .i64 (wbV l), .bool (goodW l)]) ∧ Below w.heap.size w w' := by
  have HG := Lib.hid (same_below (l6Weights_any A c l w w.heap.size h hl))
  cases hk : goodW l with
  | false =>
    have hm0 : wbV l = 0 := by unfold wbV; rw [hk]; rfl
    rw [hm0]
    go_enter Try.func31, Try.ntmps31
    go_wp2_with fail
    refine HG.out.mono ?_
    rintro e w1 ⟨rfl, hb1⟩
    rw [hk]
    go_wp2
    go_ret2
    exact ⟨rfl, hb1⟩
  | true =>
    obtain ⟨⟨hl1, hl5⟩, hw⟩ := goodW_iff.1 hk
    have hm : wbV l = 100000 * sumS l l.length := by unfold wbV; rw [if_pos hk]
    have hsb := fun k hk => sumS_bd (ws := l) hw k hk
    have Hsb := Lib.hid hsb
    have Hm := Lib.hid hm
    clear hsb hm
    go_enter Try.func31, Try.ntmps31
    go_wp2_with fail
    refine HG.out.mono ?_
    rintro e w1 ⟨rfl, hb1⟩
    rw [hk]
    have hr1 : Rd encI 1 w1 w1.heap.size A l := h.after hb1
    go_wp2
    go_loop [4, 5] (fun t i => ∃ k : Nat, k ≤ l.length ∧ i = .int .i64 k ∧ t = .int .i64 (sumS l k)) (fun _ i => l.length - (intOf i).toNat)
    case atStart => exact ⟨0, Nat.zero_le _, rfl, rfl⟩
    case round =>
      obtain ⟨k, hkl, rfl, rfl⟩ := hrel
      have hs0 := Hsb.out k hkl
      by_cases hlt : k < l.length
      · have hs1 : sumS l (k + 1) = sumS l k + absI l[k] := by show sumS l k + absI (l.getD k 0) = _; rw [getD0 hlt]
        obtain ⟨b, off, rfl, hb, c0⟩ := cellsI hr1 hlt
        have hx := hw _ (List.getElem_mem hlt)
        have ha := absI_bd hx
        generalize l[k] = x at *
        obtain ⟨hx0, hx1⟩ := hx
        have Hs := Lib.hid hs1
        have habs := fun W => l2SizeF_any x W (by omega) (by omega)
        generalize sumS l k = S at *
        generalize absI x = y at *
        have HA := Lib.hid habs
        clear hs1 habs
        go_wp2_with (go_at_call 68; refine (HA.out _).mono ?_; rintro e w' ⟨rfl, rfl⟩)
        go_round
        case rel => exact ⟨k + 1, by omega, by go_num, by rw [Hs.out]⟩
        case measure => simp [intOf]; omega
      · have hke : k = l.length := by omega
        subst hke
        have H1 := Lib.hid Hm.out
        go_wp2
        go_ret2
        rw [H1.out]
        exact ⟨rfl, hb1⟩

end Go.Proofs.Ytabnnkallgcmgaa
