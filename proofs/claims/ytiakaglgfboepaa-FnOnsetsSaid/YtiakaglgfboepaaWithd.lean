/-
  Contracts of WithdrawLast. (Printed by gen_A6.py.)
-/
import Derived.Test.YtiakaglgfboepaaPickV
import Derived.Test.YtiakaglgfboepaaApp
namespace Go.Proofs.Ytiakaglgfboepaa
set_option linter.unusedVariables false
open Go.RowKit

theorem encI_one (e : Int) : ∀ u ∈ encI e, u.oneCell' = true := by intro u hu; simp [encI] at hu; rcases hu with rfl; rfl
theorem copyOfP_any (b off n c B : Nat) (l : List Pick) (w : World) (hn : l.length = n) (h : Rd encP 7 w B (some ⟨b, off, none⟩) l) (hl : l.length ≤ 1048576) (hB : B ≤ w.heap.size) :
    Calls Try.prog 79 #[.slice (some ⟨b, off, none⟩) n c] w fun e w' => ∃ v, e = .returned v ∧ Own encP 7 w' w.heap.size 25 v l ∧ Below w.heap.size w w' := by
  obtain ⟨i0, hi, hz0, hz1, hz2⟩ := info_parts infoP
  have hB0 : Below w.heap.size w (w.alloc (.cells #[] 25)) := by (repeat (first | with_reducible exact Below.refl _ _ | with_reducible assumption | with_reducible refine Below.setCell ?_ (by simp <;> omega) _ | with_reducible refine Below.alloc ?_ (by first | omega | (simp <;> omega)) _ | with_reducible refine Below.drew ?_ | with_reducible refine below_drewN ?_ _))
  have ho := Own.empty (enc := encP) (k := 7) w w.heap.size 25 (Nat.le_refl _)
  have hr := h.alloc hB (.cells #[] 25)
  have Ho := Lib.hid ho
  have Hr := Lib.hid hr
  clear ho hr h
  go_enter Try.func79, Try.ntmps79
  go_wp2_with (at_builtin; refine wpList_appL rfl _ _ 31 rfl w.heap.size 25 i0 _ 7 56 Try.underlying31 hi hz0 hz1 hz2 rfl (by omega) (by omega) encP encP_len encP_one (.slice (some ⟨w.heap.size, 0, none⟩) 0 0) [] l (w.alloc (.cells #[] 25)) b off n c B rfl Ho.out rfl hn Hr.out (by simp; omega) (by simp) ?_; intro v' w2 hown2 hb2 _)
  have Hown2 := Lib.hid (show Own encP 7 w2 w.heap.size 25 v' l from hown2)
  clear hown2
  go_wp2
  go_ret
  exact ⟨_, rfl, Hown2.out, hB0.trans hb2⟩

def okWL (l : List Pick) : Bool := picksS l && !l.isEmpty
def wlL (l : List Pick) : List Pick := if okWL l then l.take (l.length - 1) else []
theorem wlL_len {l : List Pick} : (wlL l).length ≤ 1048576 := by
  unfold wlL
  split
  · rename_i h
    simp only [okWL, Bool.and_eq_true] at h
    have := (picksS_iff h.1).2.1
    rw [List.length_take]; omega
  · simp

set_option maxRecDepth 100000 in
set_option maxHeartbeats 400000 in
theorem WithdrawLast_any (A : Option Addr) (c : Nat) (l : List Pick) (w : World) (h : Rd encP 7 w w.heap.size A l) (hl : l.length ≤ 1048576) (hc : l.length ≤ c ∧ c ≤ maxLen) :
    Calls Try.prog 30 #[.slice A l.length c] w fun e w' => ∃ A' c', e = .returned (.tuple #[.slice A' (wlL l).length c', .bool (okWL l)]) ∧ ((wlL l).length ≤ c' ∧ c' ≤ maxLen) ∧ Own encP 7 w' w.heap.size 25 (.slice A' (wlL l).length c') (wlL l) ∧ Below w.heap.size w w' := by
  unfold wlL
  cases hp : picksS l with
  | false =>
    have hk : okWL l = false := by simp [okWL, hp]
    simp only [hk, Bool.false_eq_true, if_false, List.length_nil]
    clear hk
    go_enter Try.func30, Try.ntmps30
    go_wp2_with fail
    refine (ArePicks_any _ c l _ h hl).mono ?_
    rintro e w1 ⟨rfl, hb1⟩
    rw [hp]
    go_wp2
    go_ret2
    exact ⟨none, 0, rfl, ⟨Nat.le_refl _, Nat.zero_le _⟩, Own.none_ _ _ _, hb1⟩
  | true =>
    have h12 := (picksS_iff hp).2.1
    rcases Nat.eq_zero_or_pos l.length with h0 | h0
    · have hl0 : l = [] := List.eq_nil_of_length_eq_zero h0
      subst hl0
      have hk : okWL [] = false := by simp [okWL]
      simp only [hk, Bool.false_eq_true, if_false, List.length_nil] at *
      clear hk h0
      go_enter Try.func30, Try.ntmps30
      go_wp2_with fail
      refine (ArePicks_any A c [] _ h hl).mono ?_
      rintro e w1 ⟨rfl, hb1⟩
      rw [hp]
      go_wp2
      go_ret2
      exact ⟨none, 0, rfl, ⟨Nat.le_refl _, Nat.zero_le _⟩, Own.none_ _ _ _, hb1⟩
    · have hk : okWL l = true := by cases l with | nil => simp at h0 | cons a t => simp [okWL, hp]
      simp only [hk, if_true]
      clear hk
      obtain ⟨b, off, rfl, hb, _⟩ := cellsP h h0
      have hnl : (l.take (l.length - 1)).length = l.length - 1 := by rw [List.length_take]; omega
      obtain ⟨M, hM⟩ : ∃ M, l.take (l.length - 1) = M := ⟨_, rfl⟩
      rw [hM] at hnl ⊢
      have HM := Lib.hid hM
      have HMn := Lib.hid hnl
      have hz : ((l.length : Int) == 0) = false := by rw [beq_eq_false_iff_ne]; omega
      have hc2 : l.length ≤ c := hc.1
      have hnc2 : c ≤ 9223372036854775807 := by have := hc.2; unfold maxLen at this; omega
      have hM12 : M.length ≤ 12 := by rw [hnl]; omega
      obtain ⟨i0, hi, hz0, hz1, hz2⟩ := info_parts infoP
      clear hM hnl
      go_enter Try.func30, Try.ntmps30
      go_wp2_with fail
      refine (ArePicks_any _ c l _ h hl).mono ?_
      rintro e w1 ⟨rfl, hb1⟩
      rw [hp]
      have hr1 := (h.after hb1).take (l.length - 1)
      rw [HM.out] at hr1
      have Hr := Lib.hid hr1
      clear hr1
      go_wp2_with fail
      refine (copyOfP_any b off (l.length - 1) c w1.heap.size M w1 HMn.out Hr.out (by omega) (Nat.le_refl _)).mono ?_
      rintro e w2 ⟨v, rfl, hown, hbx⟩
      obtain ⟨A', c', rfl, hcc, hrd⟩ := Own.form encP_len hown
      have Hown := Lib.hid (hown.mono hb1.size)
      clear hown hrd
      go_wp2
      go_ret2
      exact ⟨_, _, rfl, hcc, Hown.out, hb1.trans (hbx.mono hb1.size)⟩

set_option maxRecDepth 100000 in
set_option maxHeartbeats 400000 in
theorem sWithdrawLast_any (A : Option Addr) (c : Nat) (l : List Pick) (w : World) (h : Rd encP 7 w w.heap.size A l) (hl : l.length ≤ 1048576) (hc : l.length ≤ c ∧ c ≤ maxLen) :
    Calls Try.prog 29 #[.slice A l.length c] w fun e w' => ∃ A' c', e = .returned (.tuple #[.slice A' (wlL l).length c', .bool (okWL l)]) ∧ ((wlL l).length ≤ c' ∧ c' ≤ maxLen) ∧ Own encP 7 w' w.heap.size 25 (.slice A' (wlL l).length c') (wlL l) ∧ Below w.heap.size w w' := by
  unfold wlL
  cases hp : picksS l with
  | false =>
    have hk : okWL l = false := by simp [okWL, hp]
    simp only [hk, Bool.false_eq_true, if_false, List.length_nil]
    clear hk
    go_enter Try.func29, Try.ntmps29
    go_wp2_with fail
    refine (l7Good_any _ c l _ h hl hc).mono ?_
    rintro e w1 ⟨rfl, hb1⟩
    rw [hp]
    go_wp2
    go_ret2
    exact ⟨_, 0, rfl, ⟨Nat.le_refl _, Nat.zero_le _⟩, Own.empty _ _ _ hb1.size, hb1.alloc hb1.size _⟩
  | true =>
    have h12 := (picksS_iff hp).2.1
    rcases Nat.eq_zero_or_pos l.length with h0 | h0
    · have hl0 : l = [] := List.eq_nil_of_length_eq_zero h0
      subst hl0
      have hk : okWL [] = false := by simp [okWL]
      simp only [hk, Bool.false_eq_true, if_false, List.length_nil] at *
      clear hk h0
      go_enter Try.func29, Try.ntmps29
      go_wp2_with fail
      refine (l7Good_any A c [] _ h hl hc).mono ?_
      rintro e w1 ⟨rfl, hb1⟩
      rw [hp]
      go_wp2
      go_ret2
      exact ⟨_, 0, rfl, ⟨Nat.le_refl _, Nat.zero_le _⟩, Own.empty _ _ _ hb1.size, hb1.alloc hb1.size _⟩
    · have hk : okWL l = true := by cases l with | nil => simp at h0 | cons a t => simp [okWL, hp]
      simp only [hk, if_true]
      clear hk
      obtain ⟨b, off, rfl, hb, _⟩ := cellsP h h0
      have hnl : (l.take (l.length - 1)).length = l.length - 1 := by rw [List.length_take]; omega
      obtain ⟨M, hM⟩ : ∃ M, l.take (l.length - 1) = M := ⟨_, rfl⟩
      rw [hM] at hnl ⊢
      have HM := Lib.hid hM
      have HMn := Lib.hid hnl
      have hz : ((l.length : Int) == 0) = false := by rw [beq_eq_false_iff_ne]; omega
      have hc2 : l.length ≤ c := hc.1
      have hnc2 : c ≤ 9223372036854775807 := by have := hc.2; unfold maxLen at this; omega
      have hM12 : M.length ≤ 12 := by rw [hnl]; omega
      obtain ⟨i0, hi, hz0, hz1, hz2⟩ := info_parts infoP
      clear hM hnl
      go_enter Try.func29, Try.ntmps29
      go_wp2_with fail
      refine (l7Good_any _ c l _ h hl hc).mono ?_
      rintro e w1 ⟨rfl, hb1⟩
      rw [hp]
      have hr1 := (h.after hb1).take (l.length - 1)
      rw [HM.out] at hr1
      have Ho := Lib.hid (Own.empty (enc := encP) (k := 7) w1 w1.heap.size 25 (Nat.le_refl _))
      have Hr := Lib.hid (hr1.alloc (Nat.le_refl _) (.cells #[] 25))
      clear hr1
      go_wp2_with (at_builtin; refine wpList_appL rfl _ _ 31 rfl w1.heap.size 25 i0 _ 7 56 Try.underlying31 hi hz0 hz1 hz2 rfl (by omega) (by omega) encP encP_len encP_one (.slice (some ⟨w1.heap.size, 0, none⟩) 0 0) [] M (w1.alloc (.cells #[] 25)) b off (l.length - 1) c w1.heap.size rfl Ho.out rfl HMn.out Hr.out (by simp; omega) (by simp) ?_; intro v w2 hown2 hb2 _)
      have hown := (show Own encP 7 w2 w1.heap.size 25 v M from hown2)
      have hbx := ((Below.refl w1.heap.size w1).alloc (Nat.le_refl _) (.cells #[] 25)).trans hb2
      obtain ⟨A', c', rfl, hcc, hrd⟩ := Own.form encP_len hown
      have Hown := Lib.hid (hown.mono hb1.size)
      clear hown hrd
      go_wp2
      go_ret2
      exact ⟨_, _, rfl, hcc, Hown.out, hb1.trans (hbx.mono hb1.size)⟩

end Go.Proofs.Ytiakaglgfboepaa
