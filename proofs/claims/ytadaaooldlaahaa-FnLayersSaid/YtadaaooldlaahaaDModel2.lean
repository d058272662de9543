/-
  Contracts of the exported functions that draw models. (Printed by gen_C1.py.)
-/
import Derived.Test.YtadaaooldlaahaaDModel
namespace Go.Proofs.Ytadaaooldlaahaa
set_option linter.unusedVariables false
open Go.RowKit

set_option maxRecDepth 100000 in
set_option maxHeartbeats 1000000 in
theorem DrawIsModel_any (A : Option Addr) (c : Nat) (code : List Int) (w : World) (h : Rd encB 1 w w.heap.size A code) (hl : code.length ≤ 1048576) (hby : ∀ n ∈ code, 0 ≤ n ∧ n ≤ 255) :
    Calls Try.prog 66 #[.slice A code.length c] w fun e w' => ∃ A' c' l, e = .returned (.slice A' l.length c') ∧ l.length ≤ 20 ∧ (l.length ≤ c' ∧ c' ≤ maxLen) ∧ Own encE 2 w' w.heap.size 45 (.slice A' l.length c') l ∧ Below w.heap.size w w' := by
  have hC0 := Cur.new (c := c) h hl hby
  have hb0 : Below w.heap.size w (w.alloc (.cells #[.slice A code.length c, .int .i64 0, .int .u64 0] 65)) := by (repeat (first | with_reducible exact Below.refl _ _ | with_reducible assumption | with_reducible refine Below.setCell ?_ (by simp <;> omega) _ | with_reducible refine Below.alloc ?_ (by first | omega | (simp <;> omega)) _ | with_reducible refine Below.drew ?_ | with_reducible refine below_drewN ?_ _))
  clear hby
  go_enter Try.func66, Try.ntmps66
  go_wp2_with fail
  refine (model_any w.heap.size 0 _ hC0 (by omega)).mono ?_
  rintro e w1 ⟨v, l, rfl, hll, hown, hC1, hg1⟩
  have HB1 := Lib.hid (below_of_cur hb0 (Nat.le_refl _) hg1)
  have HO1 := Lib.hid (hown.mono (show w.heap.size ≤ _ by simp))
  have HC1 := Lib.hid hC1
  obtain ⟨A1, c1, rfl, hcc, hrd1⟩ := Own.form encE_len hown
  clear hC1 hg1 hown hC0 hb0
  go_wp2
  go_ret
  exact ⟨A1, c1, l, rfl, hll, hcc, HO1.out, HB1.out⟩
set_option maxRecDepth 100000 in
set_option maxHeartbeats 1000000 in
theorem DrawModelDepth_any (A : Option Addr) (c : Nat) (code : List Int) (w : World) (h : Rd encB 1 w w.heap.size A code) (hl : code.length ≤ 1048576) (hby : ∀ n ∈ code, 0 ≤ n ∧ n ≤ 255) :
    Calls Try.prog 41 #[.slice A code.length c] w fun e w' => ∃ A' c' l, e = .returned (.slice A' l.length c') ∧ l.length ≤ 20 ∧ (l.length ≤ c' ∧ c' ≤ maxLen) ∧ Own encE 2 w' w.heap.size 45 (.slice A' l.length c') l ∧ Below w.heap.size w w' := by
  go_enter Try.func41, Try.ntmps41
  go_wp2_with fail
  refine (DrawIsModel_any A c code w h hl hby).mono ?_
  rintro e w1 ⟨A1, c1, l, rfl, hll, hcc, hown, hb⟩
  have HO1 := Lib.hid hown
  clear hown
  go_wp2
  go_ret
  exact ⟨A1, c1, l, rfl, hll, hcc, HO1.out, hb⟩
set_option maxRecDepth 100000 in
set_option maxHeartbeats 1000000 in
theorem DrawOvertakesAt_any (A : Option Addr) (c : Nat) (code : List Int) (w : World) (h : Rd encB 1 w w.heap.size A code) (hl : code.length ≤ 1048576) (hby : ∀ n ∈ code, 0 ≤ n ∧ n ≤ 255) :
    Calls Try.prog 39 #[.slice A code.length c] w fun e w' => ∃ A' c' l d, e = .returned (.tuple #[.slice A' l.length c', .int .i64 d]) ∧ l.length ≤ 20 ∧ (l.length ≤ c' ∧ c' ≤ maxLen) ∧ Own encE 2 w' w.heap.size 45 (.slice A' l.length c') l ∧ (-5000 ≤ d ∧ d ≤ 200000) ∧ Below w.heap.size w w' := by
  have hC0 := Cur.new (c := c) h hl hby
  have hb0 : Below w.heap.size w (w.alloc (.cells #[.slice A code.length c, .int .i64 0, .int .u64 0] 65)) := by (repeat (first | with_reducible exact Below.refl _ _ | with_reducible assumption | with_reducible refine Below.setCell ?_ (by simp <;> omega) _ | with_reducible refine Below.alloc ?_ (by first | omega | (simp <;> omega)) _ | with_reducible refine Below.drew ?_ | with_reducible refine below_drewN ?_ _))
  clear hby
  go_enter Try.func39, Try.ntmps39
  go_wp2_with fail
  refine (model_any w.heap.size 0 _ hC0 (by omega)).mono ?_
  rintro e w1 ⟨v, l, rfl, hll, hown, hC1, hg1⟩
  have HB1 := Lib.hid (below_of_cur hb0 (Nat.le_refl _) hg1)
  have HO1 := Lib.hid (hown.mono (show w.heap.size ≤ _ by simp))
  have HC1 := Lib.hid hC1
  obtain ⟨A1, c1, rfl, hcc, hrd1⟩ := Own.form encE_len hown
  clear hC1 hg1 hown hC0 hb0
  go_wp2_with fail
  refine (pick_any w.heap.size 10000 (l.length + 1) _ HC1.out (by omega) (by omega)).mono ?_
  rintro e w2 ⟨p2, rfl, ⟨hp20, hp21⟩, hC2, hg2⟩
  have HB2 := Lib.hid (below_of_cur HB1.out (Nat.le_refl _) hg2)
  have HO2 := Lib.hid (HO1.out.cur HC1.out hg2 (by decide))
  have HC2 := Lib.hid hC2
  clear hC2 hg2
  have hp2 : p2 ≤ 20 := by omega
  clear hp21
  go_wp2_with fail
  refine (pick_any w.heap.size 10002 9 _ HC2.out (by omega) (by omega)).mono ?_
  rintro e w3 ⟨p3, rfl, ⟨hp30, hp31⟩, hC3, hg3⟩
  have HB3 := Lib.hid (below_of_cur HB2.out (Nat.le_refl _) hg3)
  have HO3 := Lib.hid (HO2.out.cur HC2.out hg3 (by decide))
  have HC3 := Lib.hid hC3
  clear hC3 hg3
  have hp3 : p3 ≤ 8 := by omega
  clear hp31
  go_wp2
  go_ret2
  exact ⟨A1, c1, l, _, rfl, hll, hcc, HO3.out, by omega, HB3.out⟩
set_option maxRecDepth 100000 in
set_option maxHeartbeats 1000000 in
theorem DrawTimeVia_any (A : Option Addr) (c : Nat) (code : List Int) (w : World) (h : Rd encB 1 w w.heap.size A code) (hl : code.length ≤ 1048576) (hby : ∀ n ∈ code, 0 ≤ n ∧ n ≤ 255) :
    Calls Try.prog 38 #[.slice A code.length c] w fun e w' => ∃ A' c' l d1 d2, e = .returned (.tuple #[.slice A' l.length c', .int .i64 d1, .int .i64 d2]) ∧ l.length ≤ 20 ∧ (l.length ≤ c' ∧ c' ≤ maxLen) ∧ Own encE 2 w' w.heap.size 45 (.slice A' l.length c') l ∧ (-5000 ≤ d1 ∧ d1 ≤ 200000) ∧ (-5000 ≤ d2 ∧ d2 ≤ 200000) ∧ Below w.heap.size w w' := by
  have hC0 := Cur.new (c := c) h hl hby
  have hb0 : Below w.heap.size w (w.alloc (.cells #[.slice A code.length c, .int .i64 0, .int .u64 0] 65)) := by (repeat (first | with_reducible exact Below.refl _ _ | with_reducible assumption | with_reducible refine Below.setCell ?_ (by simp <;> omega) _ | with_reducible refine Below.alloc ?_ (by first | omega | (simp <;> omega)) _ | with_reducible refine Below.drew ?_ | with_reducible refine below_drewN ?_ _))
  clear hby
  go_enter Try.func38, Try.ntmps38
  go_wp2_with fail
  refine (model_any w.heap.size 0 _ hC0 (by omega)).mono ?_
  rintro e w1 ⟨v, l, rfl, hll, hown, hC1, hg1⟩
  have HB1 := Lib.hid (below_of_cur hb0 (Nat.le_refl _) hg1)
  have HO1 := Lib.hid (hown.mono (show w.heap.size ≤ _ by simp))
  have HC1 := Lib.hid hC1
  obtain ⟨A1, c1, rfl, hcc, hrd1⟩ := Own.form encE_len hown
  clear hC1 hg1 hown hC0 hb0
  go_wp2_with fail
  refine (pick_any w.heap.size 10000 (l.length + 1) _ HC1.out (by omega) (by omega)).mono ?_
  rintro e w2 ⟨p2, rfl, ⟨hp20, hp21⟩, hC2, hg2⟩
  have HB2 := Lib.hid (below_of_cur HB1.out (Nat.le_refl _) hg2)
  have HO2 := Lib.hid (HO1.out.cur HC1.out hg2 (by decide))
  have HC2 := Lib.hid hC2
  clear hC2 hg2
  have hp2 : p2 ≤ 20 := by omega
  clear hp21
  go_wp2_with fail
  refine (pick_any w.heap.size 10002 9 _ HC2.out (by omega) (by omega)).mono ?_
  rintro e w3 ⟨p3, rfl, ⟨hp30, hp31⟩, hC3, hg3⟩
  have HB3 := Lib.hid (below_of_cur HB2.out (Nat.le_refl _) hg3)
  have HO3 := Lib.hid (HO2.out.cur HC2.out hg3 (by decide))
  have HC3 := Lib.hid hC3
  clear hC3 hg3
  have hp3 : p3 ≤ 8 := by omega
  clear hp31
  go_wp2_with fail
  refine (distance_any w.heap.size 10004 _ HC3.out (by omega)).mono ?_
  rintro e w4 ⟨d, rfl, ⟨hd0, hd1⟩, hC4, hg4⟩
  have HB4 := Lib.hid (below_of_cur HB3.out (Nat.le_refl _) hg4)
  have HO4 := Lib.hid (HO3.out.cur HC3.out hg4 (by decide))
  have HC4 := Lib.hid hC4
  clear hC4 hg4
  go_wp2
  go_ret3
  exact ⟨A1, c1, l, _, _, rfl, hll, hcc, HO4.out, by omega, by omega, HB4.out⟩
set_option maxRecDepth 100000 in
set_option maxHeartbeats 1000000 in
theorem DrawReachIn_any (A : Option Addr) (c : Nat) (code : List Int) (w : World) (h : Rd encB 1 w w.heap.size A code) (hl : code.length ≤ 1048576) (hby : ∀ n ∈ code, 0 ≤ n ∧ n ≤ 255) :
    Calls Try.prog 37 #[.slice A code.length c] w fun e w' => ∃ A' c' l d, e = .returned (.tuple #[.slice A' l.length c', .int .i64 d]) ∧ l.length ≤ 20 ∧ (l.length ≤ c' ∧ c' ≤ maxLen) ∧ Own encE 2 w' w.heap.size 45 (.slice A' l.length c') l ∧ (-5000 ≤ d ∧ d ≤ 200000) ∧ Below w.heap.size w w' := by
  have hC0 := Cur.new (c := c) h hl hby
  have hb0 : Below w.heap.size w (w.alloc (.cells #[.slice A code.length c, .int .i64 0, .int .u64 0] 65)) := by (repeat (first | with_reducible exact Below.refl _ _ | with_reducible assumption | with_reducible refine Below.setCell ?_ (by simp <;> omega) _ | with_reducible refine Below.alloc ?_ (by first | omega | (simp <;> omega)) _ | with_reducible refine Below.drew ?_ | with_reducible refine below_drewN ?_ _))
  clear hby
  go_enter Try.func37, Try.ntmps37
  go_wp2_with fail
  refine (model_any w.heap.size 0 _ hC0 (by omega)).mono ?_
  rintro e w1 ⟨v, l, rfl, hll, hown, hC1, hg1⟩
  have HB1 := Lib.hid (below_of_cur hb0 (Nat.le_refl _) hg1)
  have HO1 := Lib.hid (hown.mono (show w.heap.size ≤ _ by simp))
  have HC1 := Lib.hid hC1
  obtain ⟨A1, c1, rfl, hcc, hrd1⟩ := Own.form encE_len hown
  clear hC1 hg1 hown hC0 hb0
  go_wp2_with fail
  refine (among_lit w.heap.size 10000 [0, 1, 3, 10, 40, 100, 100000, 100001, -1] _ 9 _ _ (by rfl) (by rfl) (by simp) HC1.out (by omega) (by omega) (by omega)).mono ?_
  rintro e w2 ⟨d, rfl, hd, hC2, hg2⟩
  have HB2 := Lib.hid (below_of_cur HB1.out (Nat.le_refl _) hg2)
  have HO2 := Lib.hid (HO1.out.cur HC1.out hg2 (by decide))
  have HC2 := Lib.hid hC2
  clear hC2 hg2
  have hd2 : -1 ≤ d ∧ d ≤ 100001 := by simp at hd; omega
  clear hd
  go_wp2
  go_ret2
  exact ⟨A1, c1, l, _, rfl, hll, hcc, HO2.out, by omega, HB2.out⟩
set_option maxRecDepth 100000 in
set_option maxHeartbeats 1000000 in
theorem DrawTimeTo_any (A : Option Addr) (c : Nat) (code : List Int) (w : World) (h : Rd encB 1 w w.heap.size A code) (hl : code.length ≤ 1048576) (hby : ∀ n ∈ code, 0 ≤ n ∧ n ≤ 255) :
    Calls Try.prog 40 #[.slice A code.length c] w fun e w' => ∃ A' c' l d, e = .returned (.tuple #[.slice A' l.length c', .int .i64 d]) ∧ l.length ≤ 20 ∧ (l.length ≤ c' ∧ c' ≤ maxLen) ∧ Own encE 2 w' w.heap.size 45 (.slice A' l.length c') l ∧ (-5000 ≤ d ∧ d ≤ 200000) ∧ Below w.heap.size w w' := by
  have hC0 := Cur.new (c := c) h hl hby
  have hb0 : Below w.heap.size w (w.alloc (.cells #[.slice A code.length c, .int .i64 0, .int .u64 0] 65)) := by (repeat (first | with_reducible exact Below.refl _ _ | with_reducible assumption | with_reducible refine Below.setCell ?_ (by simp <;> omega) _ | with_reducible refine Below.alloc ?_ (by first | omega | (simp <;> omega)) _ | with_reducible refine Below.drew ?_ | with_reducible refine below_drewN ?_ _))
  clear hby
  go_enter Try.func40, Try.ntmps40
  go_wp2_with fail
  refine (model_any w.heap.size 0 _ hC0 (by omega)).mono ?_
  rintro e w1 ⟨v, l, rfl, hll, hown, hC1, hg1⟩
  have HB1 := Lib.hid (below_of_cur hb0 (Nat.le_refl _) hg1)
  have HO1 := Lib.hid (hown.mono (show w.heap.size ≤ _ by simp))
  have HC1 := Lib.hid hC1
  obtain ⟨A1, c1, rfl, hcc, hrd1⟩ := Own.form encE_len hown
  clear hC1 hg1 hown hC0 hb0
  go_wp2_with fail
  refine (sModelDepth_any A1 c1 l _ w1.heap.size hrd1 (by omega)).mono ?_
  rintro e w' ⟨rfl, rfl⟩
  obtain ⟨n, hn⟩ : ∃ n, DPv l = n := ⟨_, rfl⟩
  have hnb : 0 ≤ n ∧ n ≤ 1000 := by
    rw [← hn]; unfold DPv
    split
    · rename_i hg
      obtain ⟨ho, _, h5⟩ := good_oks hg
      exact depthL_all ho h5
    · omega
  obtain ⟨hn0, hn1⟩ := hnb
  rw [hn]
  clear hn hrd1
  go_wp2_with fail
  refine (among_lit w.heap.size 10000 [0, 1, n, n - 1, n / 2, n / 3, n + 1, -1] _ 8 _ _ (by rfl) (by rfl) (by simp) HC1.out (by omega) (by omega) (by omega)).mono ?_
  rintro e w2 ⟨d, rfl, hd, hC2, hg2⟩
  have HB2 := Lib.hid (below_of_cur HB1.out (Nat.le_refl _) hg2)
  have HO2 := Lib.hid (HO1.out.cur HC1.out hg2 (by decide))
  have HC2 := Lib.hid hC2
  clear hC2 hg2
  have hd2 : -1 ≤ d ∧ d ≤ 1001 := by simp at hd; omega
  clear hd
  go_wp2
  go_ret2
  exact ⟨A1, c1, l, _, rfl, hll, hcc, HO2.out, by omega, HB2.out⟩

theorem OVd_bd (l : List Earth) (m : Int) : 0 ≤ OVd l m ∧ OVd l m ≤ 2001 := by
  unfold OVd
  split
  · rename_i hk
    have h1 : 0 ≤ ovI l m.toNat := by simp only [okOv, Bool.and_eq_true, decide_eq_true_eq] at hk; exact hk.2
    refine ⟨h1, ?_⟩
    unfold ovI idxOf
    split
    · have := List.findIdx_le_length (xs := List.range 2001) (p := fun j : Nat => bst l j m.toNat == m.toNat)
      simp only [List.length_range] at this
      omega
    · omega
  · omega
set_option maxRecDepth 100000 in
set_option maxHeartbeats 1000000 in
theorem DrawFirstVia_any (A : Option Addr) (c : Nat) (code : List Int) (w : World) (h : Rd encB 1 w w.heap.size A code) (hl : code.length ≤ 1048576) (hby : ∀ n ∈ code, 0 ≤ n ∧ n ≤ 255) :
    Calls Try.prog 61 #[.slice A code.length c] w fun e w' => ∃ A' c' l d, e = .returned (.tuple #[.slice A' l.length c', .int .i64 d]) ∧ l.length ≤ 20 ∧ (l.length ≤ c' ∧ c' ≤ maxLen) ∧ Own encE 2 w' w.heap.size 45 (.slice A' l.length c') l ∧ (-5000 ≤ d ∧ d ≤ 200000) ∧ Below w.heap.size w w' := by
  have hC0 := Cur.new (c := c) h hl hby
  have hb0 : Below w.heap.size w (w.alloc (.cells #[.slice A code.length c, .int .i64 0, .int .u64 0] 65)) := by (repeat (first | with_reducible exact Below.refl _ _ | with_reducible assumption | with_reducible refine Below.setCell ?_ (by simp <;> omega) _ | with_reducible refine Below.alloc ?_ (by first | omega | (simp <;> omega)) _ | with_reducible refine Below.drew ?_ | with_reducible refine below_drewN ?_ _))
  clear hby
  go_enter Try.func61, Try.ntmps61
  go_wp2_with fail
  refine (model_any w.heap.size 0 _ hC0 (by omega)).mono ?_
  rintro e w1 ⟨v, l, rfl, hll, hown, hC1, hg1⟩
  have HB1 := Lib.hid (below_of_cur hb0 (Nat.le_refl _) hg1)
  have HO1 := Lib.hid (hown.mono (show w.heap.size ≤ _ by simp))
  have HC1 := Lib.hid hC1
  obtain ⟨A1, c1, rfl, hcc, hrd1⟩ := Own.form encE_len hown
  clear hC1 hg1 hown hC0 hb0
  by_cases h1 : (l.length : Int) > 1
  · go_wp2_with fail
    refine (one_any w.heap.size 10000 2 _ HC1.out (by omega) (by omega)).mono ?_
    rintro e w2 ⟨bo, rfl, hC2, hg2⟩
    have HB2 := Lib.hid (below_of_cur HB1.out (Nat.le_refl _) hg2)
    have HO2 := Lib.hid (HO1.out.cur HC1.out hg2 (by decide))
    have HC2 := Lib.hid hC2
    clear hC2 hg2
    cases bo with
    | true =>
      go_wp2_with fail
      refine (pick_any w.heap.size 10002 ((l.length : Int) - 1) _ HC2.out (by omega) (by omega)).mono ?_
      rintro e w3 ⟨p3, rfl, ⟨hp30, hp31⟩, hC3, hg3⟩
      have HB3 := Lib.hid (below_of_cur HB2.out (Nat.le_refl _) hg3)
      have HO3 := Lib.hid (HO2.out.cur HC2.out hg3 (by decide))
      have HC3 := Lib.hid hC3
      clear hC3 hg3
      have hp3 : p3 ≤ 20 := by omega
      clear hp31 hrd1
      go_wp2_with fail
      refine (sOvertakesAt_any A1 c1 l (1 + p3) _ (Own.rd' encE_len HO3.out) (by omega) hcc).mono ?_
      rintro e w4 ⟨rfl, hb4⟩
      have hdb := OVd_bd l (1 + p3)
      generalize OVd l (1 + p3) = d at *
      generalize okOv l (1 + p3) = ok at *
      obtain ⟨hd0, hd1⟩ := hdb
      have HB4 := Lib.hid (HB3.out.trans (hb4.mono HB3.out.size))
      have HO4 := Lib.hid (HO3.out.keep hb4)
      have HC4 := Lib.hid (HC3.out.after hb4)
      clear hb4
      cases ok with
      | true =>
        go_wp2_with fail
        refine (pick_any w.heap.size 10004 2 _ HC4.out (by omega) (by omega)).mono ?_
        rintro e w5 ⟨p5, rfl, ⟨hp50, hp51⟩, hC5, hg5⟩
        have HB5 := Lib.hid (below_of_cur HB4.out (Nat.le_refl _) hg5)
        have HO5 := Lib.hid (HO4.out.cur HC4.out hg5 (by decide))
        have HC5 := Lib.hid hC5
        clear hC5 hg5
        have hp5 : p5 ≤ 1 := by omega
        clear hp51
        go_wp2
        go_ret2
        exact ⟨A1, c1, l, _, rfl, hll, hcc, HO5.out, by omega, HB5.out⟩

      | false =>
        go_wp2_with fail
        refine (distance_any w.heap.size 10004 _ HC4.out (by omega)).mono ?_
        rintro e w5 ⟨d', rfl, ⟨hd0', hd1'⟩, hC5, hg5⟩
        have HB5 := Lib.hid (below_of_cur HB4.out (Nat.le_refl _) hg5)
        have HO5 := Lib.hid (HO4.out.cur HC4.out hg5 (by decide))
        have HC5 := Lib.hid hC5
        clear hC5 hg5
        go_wp2
        go_ret2
        exact ⟨A1, c1, l, _, rfl, hll, hcc, HO5.out, by omega, HB5.out⟩

    | false =>
      go_wp2_with fail
      refine (distance_any w.heap.size 10002 _ HC2.out (by omega)).mono ?_
      rintro e w3 ⟨d', rfl, ⟨hd0', hd1'⟩, hC3, hg3⟩
      have HB3 := Lib.hid (below_of_cur HB2.out (Nat.le_refl _) hg3)
      have HO3 := Lib.hid (HO2.out.cur HC2.out hg3 (by decide))
      have HC3 := Lib.hid hC3
      clear hC3 hg3
      go_wp2
      go_ret2
      exact ⟨A1, c1, l, _, rfl, hll, hcc, HO3.out, by omega, HB3.out⟩
  · go_wp2_with fail
    refine (distance_any w.heap.size 10000 _ HC1.out (by omega)).mono ?_
    rintro e w2 ⟨d', rfl, ⟨hd0', hd1'⟩, hC2, hg2⟩
    have HB2 := Lib.hid (below_of_cur HB1.out (Nat.le_refl _) hg2)
    have HO2 := Lib.hid (HO1.out.cur HC1.out hg2 (by decide))
    have HC2 := Lib.hid hC2
    clear hC2 hg2
    go_wp2
    go_ret2
    exact ⟨A1, c1, l, _, rfl, hll, hcc, HO2.out, by omega, HB2.out⟩
set_option maxRecDepth 100000 in
set_option maxHeartbeats 1000000 in
theorem DrawFirstTime_any (A : Option Addr) (c : Nat) (code : List Int) (w : World) (h : Rd encB 1 w w.heap.size A code) (hl : code.length ≤ 1048576) (hby : ∀ n ∈ code, 0 ≤ n ∧ n ≤ 255) :
    Calls Try.prog 36 #[.slice A code.length c] w fun e w' => ∃ A' c' l d, e = .returned (.tuple #[.slice A' l.length c', .int .i64 d]) ∧ l.length ≤ 20 ∧ (l.length ≤ c' ∧ c' ≤ maxLen) ∧ Own encE 2 w' w.heap.size 45 (.slice A' l.length c') l ∧ (-5000 ≤ d ∧ d ≤ 200000) ∧ Below w.heap.size w w' := by
  go_enter Try.func36, Try.ntmps36
  go_wp2_with fail
  refine (DrawFirstVia_any A c code w h hl hby).mono ?_
  rintro e w1 ⟨A1, c1, l, d, rfl, hll, hcc, hown, hd, hb⟩
  have HO1 := Lib.hid hown
  clear hown
  go_wp2
  go_ret2
  exact ⟨A1, c1, l, d, rfl, hll, hcc, HO1.out, hd, hb⟩

end Go.Proofs.Ytadaaooldlaahaa
