/-
  Contracts of the reference's Clipped. (Printed by gen_F3.py.)
-/
import Derived.Test.YtabnnkallgcmgaaClipI
namespace Go.Proofs.Ytabnnkallgcmgaa
set_option linter.unusedVariables false
open Go.RowKit

set_option maxRecDepth 100000 in
set_option maxHeartbeats 1000000 in
theorem sClipped_any (A : Option Addr) (c : Nat) (l : List Int) (n : Int) (w : World) (h : Rd encI 1 w w.heap.size A l) (hl : l.length ≤ 1048576) (hc : l.length ≤ c ∧ c ≤ maxLen) :
    Calls Try.prog 40 #[.slice A l.length c, .int .i64 n] w fun e w' => ∃ A' c', e = .returned (.tuple #[.slice A' (evL 0 100000 clF l n).length c', .bool (okA 0 100000 l n)]) ∧ ((evL 0 100000 clF l n).length ≤ c' ∧ c' ≤ maxLen) ∧ Own encI 1 w' w.heap.size 3 (.slice A' (evL 0 100000 clF l n).length c') (evL 0 100000 clF l n) ∧ Below w.heap.size w w' := by
  have hb0 : Below w.heap.size w (w.alloc (.cells #[] 3)) := by (repeat (first | with_reducible exact Below.refl _ _ | with_reducible assumption | with_reducible refine Below.setCell ?_ (by simp <;> omega) _ | with_reducible refine Below.alloc ?_ (by first | omega | (simp <;> omega)) _ | with_reducible refine Below.drew ?_ | with_reducible refine below_drewN ?_ _))
  have hr0 := (h.below hb0).more hb0.size
  have Ho := Lib.hid (Own.empty (enc := encI) (k := 1) w w.heap.size 3 (Nat.le_refl _))
  have hask := fun W B hW => l6Asked_any A c l n 0 100000 W B hW hl
  rw [show (goodS l && inB n 0 100000) = okA 0 100000 l n from rfl] at hask
  cases hk : okA 0 100000 l n with
  | false =>
    rw [evL_no hk]
    simp only [List.length_nil]
    rw [hk] at hask
    have Hask := Lib.hid hask
    clear hask hk
    go_enter Try.func40, Try.ntmps40
    go_wp2_with (go_at_call 44; refine (Hask.out _ _ hr0).mono ?_; rintro e w1 ⟨rfl, rfl⟩)
    go_ret2
    exact ⟨_, 0, rfl, ⟨Nat.le_refl _, Nat.zero_le _⟩, Ho.out, hb0⟩
  | true =>
    obtain ⟨⟨hl24, hsm⟩, hn1, hn2⟩ := okA_iff.1 hk
    obtain ⟨i0, hi, hz0, hz1, hz2⟩ := info_parts infoI
    obtain ⟨M, hM⟩ : ∃ M, evL 0 100000 clF l n = M := ⟨_, rfl⟩
    have hMv : M = (List.range l.length).map (clF l n) := by rw [← hM, evL_yes hk]
    have hMl : M.length = l.length := by rw [hMv]; simp
    rw [hM, hMl]
    have HM := Lib.hid hMv
    rw [hk] at hask
    have Hask := Lib.hid hask
    clear hask hM hMv hMl hk
    go_enter Try.func40, Try.ntmps40
    go_wp2_with (go_at_call 44; refine (Hask.out _ _ hr0).mono ?_; rintro e w1 ⟨rfl, rfl⟩)
    go_loopw [6, 7] (fun v i wr => ∃ k : Nat, k ≤ l.length ∧ i = .int .i64 k ∧ Hid (Own encI 1 wr w.heap.size 3 v ((List.range k).map (clF l n))) ∧ Below w.heap.size w wr) (fun _ i _ => l.length - (intOf i).toNat)
    case atStart => exact ⟨0, Nat.zero_le _, rfl, Ho.out, hb0⟩
    case round =>
      obtain ⟨k, hkl, rfl, hown, hbl⟩ := hrel
      obtain ⟨wo, rfl⟩ : ∃ wo : World, wo = wr := ⟨_, rfl⟩
      by_cases hlt : k < l.length
      · have hnx : (List.range (k + 1)).map (clF l n) = (List.range k).map (clF l n) ++ [clF l n k] := by rw [List.range_succ, List.map_append]; rfl
        have hfl : ((List.range k).map (clF l n)).length ≤ 1048576 := by rw [List.length_map, List.length_range]; omega
        obtain ⟨M2, hM2⟩ : ∃ M2, (List.range k).map (clF l n) = M2 := ⟨_, rfl⟩
        rw [hM2] at hnx hown hfl
        have Hnx := Lib.hid hnx
        obtain ⟨B', d', rfl, hcd, _⟩ := Own.form encI_len hown.out
        have hsz := hbl.size
        have hrk := (h.below hbl).more hsz
        clear hM2 hnx
        obtain ⟨b, off, rfl, hb, c0⟩ := cellsI hrk hlt
        have hx := hsm _ (List.getElem_mem hlt)
        have hf : clF l n k = max (-n) (min n l[k]) := by unfold clF; rw [getD_at hlt]
        rw [hf] at Hnx
        generalize l[k] = x at *
        clear hf
        go_wp2_with (first | (go_at_call 59; refine (l1Least_any _ _ _).mono ?_; rintro e w' ⟨rfl, rfl⟩) | (go_at_call 45; refine (l1Most_any _ _ _).mono ?_; rintro e w' ⟨rfl, rfl⟩) | (at_builtin; refine wpList_app1 rfl _ _ 22 rfl w.heap.size 3 i0 _ 1 8 Try.underlying22 hi hz0 hz1 hz2 rfl (by omega) (by omega) encI encI_len encI_one (.slice B' M2.length d') M2 (max (-n) (min n x)) wo _ rfl _ rfl hown.out rfl hfl (by omega) ?_; intro v' w2 hown2 hb2 _))
        have Hown2 := Lib.hid hown2
        have hbl2 := hbl.trans hb2
        clear hown2 hb2
        go_wp2
        go_roundw
        case rel => exact ⟨k + 1, by omega, by go_num, by rw [Hnx.out]; exact Hown2.out, hbl2⟩
        case measure => simp [intOf]; omega
      · have hke : k = l.length := by omega
        have hown' : Own encI 1 wo w.heap.size 3 u6 M := by rw [HM.out, ← hke]; exact hown.out
        obtain ⟨B', d', e6, hcd, _⟩ := Own.form encI_len hown'
        have hMl : M.length = l.length := by rw [HM.out]; simp
        rw [hMl] at e6 hcd
        subst e6
        have Hown := Lib.hid hown'
        clear hown hown' hke hMl
        go_wp2
        go_ret2
        exact ⟨_, _, rfl, hcd, Hown.out, hbl⟩

end Go.Proofs.Ytabnnkallgcmgaa
