/-
  Contracts of the exported functions that draw picks. (Printed by gen_A15.py.)
-/
import Derived.Test.YtiakaglgfboepaaDPick2
namespace Go.Proofs.Ytiakaglgfboepaa
set_option linter.unusedVariables false
open Go.RowKit

set_option maxHeartbeats 1000000 in
theorem onsetId_any (g m ga cp : Nat) (l : List Pick) (w : World) (h : Cur w g m) (hm : m ≤ 800000000) (A : Option Addr) (hr : Rd encP 7 w w.heap.size A l) (hne : ∀ b o, A = some ⟨b, o, none⟩ → l ≠ [] → b ≠ g) (hl : l.length ≤ 1000) :
    Calls Try.prog 90 #[.pointer (some ⟨g, 0, none⟩), .slice A l.length cp] w fun e w' => ∃ x : Int, e = .returned (.int .i64 x) ∧ Cur w' g (m + 4) ∧ w.grownBy w' (some g) := by
  have HC0 := Lib.hid h
  have HG0 := Lib.hid (only_refl w (some g))
  by_cases h0 : l.length = 0
  · have hz : ((l.length : Int) == 0) = true := by rw [beq_iff_eq]; omega
    have Hz := Lib.hid h0
    clear h0 h
    go_enter Try.func90, Try.ntmps90
    go_wp2_with fail
    refine (among_lit g m [0, 1, 500] _ 3 _ _ (by rfl) (by rfl) (by simp) HC0.out (by omega) (by omega) (by omega)).mono ?_
    rintro e w1 ⟨x, rfl, _, hC, hg⟩
    go_wp2
    go_ret
    exact ⟨x, rfl, hC.more (by omega), hg⟩
  · have hz : ((l.length : Int) == 0) = false := by rw [beq_eq_false_iff_ne]; omega
    have hpos : 0 < l.length := by omega
    clear h
    go_enter Try.func90, Try.ntmps90
    go_wp2_with fail
    refine (one_any g m 10 _ HC0.out (by omega) (by omega)).mono ?_
    rintro e w1 ⟨bo, rfl, hC, hg⟩
    have HC1 := Lib.hid hC
    have HG1 := Lib.hid hg
    clear hC hg
    cases bo with
    | true =>
      go_wp2_with fail
      refine (among_lit g (m + 2) [0, 1, 500] _ 3 _ _ (by rfl) (by rfl) (by simp) HC1.out (by omega) (by omega) (by omega)).mono ?_
      rintro e w2 ⟨x, rfl, _, hC, hg⟩
      go_wp2
      go_ret
      exact ⟨x, rfl, hC.more (by omega), only_trans HG1.out hg⟩
    | false =>
      go_wp2_with fail
      refine (pick_any g (m + 2) l.length _ HC1.out (by omega) (by omega)).mono ?_
      rintro e w2 ⟨j, rfl, ⟨hj0, hx⟩, hC, hg⟩
      have hj1 : j < l.length := by omega
      clear hx
      obtain ⟨jn, rfl⟩ := Int.eq_ofNat_of_zero_le hj0
      have hjn : jn < l.length := by omega
      obtain ⟨b9, o9, e9, hb9, c0, -⟩ := cellsP hr hjn
      have hbn := hne _ _ e9 (by intro e; rw [e] at hpos; simp at hpos)
      have hgg := only_trans HG1.out hg
      have d0 : w2.cell? ⟨b9, o9 + jn * 7, none⟩ = some (.int .i64 l[jn].id) := (World.cell?_of_block (hgg.block b9 hb9 (by intro e; injection e with e; exact hbn e))).trans c0
      subst e9
      generalize l[jn].id = y at *
      have Hgg := Lib.hid hgg
      clear c0 hgg hg
      go_wp2
      go_ret
      exact ⟨y, rfl, hC.more (by omega), Hgg.out⟩

set_option maxRecDepth 100000 in
set_option maxHeartbeats 2000000 in
theorem DrawArePicks_any (A : Option Addr) (c : Nat) (code : List Int) (w : World) (h : Rd encB 1 w w.heap.size A code) (hl : code.length ≤ 1048576) (hby : ∀ n ∈ code, 0 ≤ n ∧ n ≤ 255) :
    Calls Try.prog 93 #[.slice A code.length c] w fun e w' => ∃ A' c' l, e = .returned (.slice A' l.length c') ∧ l.length ≤ 20 ∧ (l.length ≤ c' ∧ c' ≤ maxLen) ∧ Own encP 7 w' w.heap.size 25 (.slice A' l.length c') l ∧ Below w.heap.size w w' := by
  have hC0 := Cur.new (c := c) h hl hby
  have hb0 : Below w.heap.size w (w.alloc (.cells #[.slice A code.length c, .int .i64 0, .int .u64 0] 84)) := by (repeat (first | with_reducible exact Below.refl _ _ | with_reducible assumption | with_reducible refine Below.setCell ?_ (by simp <;> omega) _ | with_reducible refine Below.alloc ?_ (by first | omega | (simp <;> omega)) _ | with_reducible refine Below.drew ?_ | with_reducible refine below_drewN ?_ _))
  clear hby
  go_enter Try.func93, Try.ntmps93
  go_wp2_with fail
  refine (onsets_any w.heap.size 0 _ hC0 (by omega)).mono ?_
  rintro e w1 ⟨v, l, rfl, hll, hown, hC, hg⟩
  have HB1 := Lib.hid (below_of_cur hb0 (Nat.le_refl _) hg)
  have HO := Lib.hid (hown.mono (show w.heap.size ≤ _ by simp))
  have HC1 := Lib.hid hC
  have hs1 := HB1.out.size
  obtain ⟨A1, c1, rfl, hcc, _⟩ := Own.form encP_len hown
  have hne1 := Lib.hid (fun b o (e9 : A1 = some ⟨b, o, none⟩) (hn9 : l ≠ []) => (show b ≠ w.heap.size from by
    intro e8
    subst e8
    obtain ⟨g8, cs8, e7, hb7, _⟩ := hown.blk (by cases l with | nil => exact absurd rfl hn9 | cons _ _ => simp)
    rw [e9] at e7
    injection e7 with e7
    injection e7 with e7
    simp at hb7; omega))
  clear hC hg hown hC0 hb0
  go_wp2
  go_ret
  exact ⟨A1, c1, l, rfl, hll, hcc, HO.out, HB1.out⟩
set_option maxRecDepth 100000 in
set_option maxHeartbeats 2000000 in
theorem DrawCurrentPicks_any (A : Option Addr) (c : Nat) (code : List Int) (w : World) (h : Rd encB 1 w w.heap.size A code) (hl : code.length ≤ 1048576) (hby : ∀ n ∈ code, 0 ≤ n ∧ n ≤ 255) :
    Calls Try.prog 53 #[.slice A code.length c] w fun e w' => ∃ A' c' l, e = .returned (.slice A' l.length c') ∧ l.length ≤ 20 ∧ (l.length ≤ c' ∧ c' ≤ maxLen) ∧ Own encP 7 w' w.heap.size 25 (.slice A' l.length c') l ∧ Below w.heap.size w w' := by
  go_enter Try.func53, Try.ntmps53
  go_wp2_with fail
  refine (DrawArePicks_any A c code w h hl hby).mono ?_
  rintro e w1 ⟨A1, c1, l, rfl, hll, hcc, hown, hb⟩
  have HO1 := Lib.hid hown
  clear hown
  go_wp2
  go_ret
  exact ⟨A1, c1, l, rfl, hll, hcc, HO1.out, hb⟩
set_option maxRecDepth 100000 in
set_option maxHeartbeats 2000000 in
theorem DrawWithdrawLast_any (A : Option Addr) (c : Nat) (code : List Int) (w : World) (h : Rd encB 1 w w.heap.size A code) (hl : code.length ≤ 1048576) (hby : ∀ n ∈ code, 0 ≤ n ∧ n ≤ 255) :
    Calls Try.prog 54 #[.slice A code.length c] w fun e w' => ∃ A' c' l, e = .returned (.slice A' l.length c') ∧ l.length ≤ 20 ∧ (l.length ≤ c' ∧ c' ≤ maxLen) ∧ Own encP 7 w' w.heap.size 25 (.slice A' l.length c') l ∧ Below w.heap.size w w' := by
  go_enter Try.func54, Try.ntmps54
  go_wp2_with fail
  refine (DrawArePicks_any A c code w h hl hby).mono ?_
  rintro e w1 ⟨A1, c1, l, rfl, hll, hcc, hown, hb⟩
  have HO1 := Lib.hid hown
  clear hown
  go_wp2
  go_ret
  exact ⟨A1, c1, l, rfl, hll, hcc, HO1.out, hb⟩
set_option maxRecDepth 100000 in
set_option maxHeartbeats 2000000 in
theorem DrawRevisions_any (A : Option Addr) (c : Nat) (code : List Int) (w : World) (h : Rd encB 1 w w.heap.size A code) (hl : code.length ≤ 1048576) (hby : ∀ n ∈ code, 0 ≤ n ∧ n ≤ 255) :
    Calls Try.prog 59 #[.slice A code.length c] w fun e w' => ∃ A' c' l, e = .returned (.slice A' l.length c') ∧ l.length ≤ 20 ∧ (l.length ≤ c' ∧ c' ≤ maxLen) ∧ Own encP 7 w' w.heap.size 25 (.slice A' l.length c') l ∧ Below w.heap.size w w' := by
  go_enter Try.func59, Try.ntmps59
  go_wp2_with fail
  refine (DrawArePicks_any A c code w h hl hby).mono ?_
  rintro e w1 ⟨A1, c1, l, rfl, hll, hcc, hown, hb⟩
  have HO1 := Lib.hid hown
  clear hown
  go_wp2
  go_ret
  exact ⟨A1, c1, l, rfl, hll, hcc, HO1.out, hb⟩

set_option maxRecDepth 100000 in
set_option maxHeartbeats 2000000 in
theorem DrawHistoryOf_any (A : Option Addr) (c : Nat) (code : List Int) (w : World) (h : Rd encB 1 w w.heap.size A code) (hl : code.length ≤ 1048576) (hby : ∀ n ∈ code, 0 ≤ n ∧ n ≤ 255) :
    Calls Try.prog 51 #[.slice A code.length c] w fun e w' => ∃ A' c' l d1, e = .returned (.tuple #[.slice A' l.length c', .int .i64 d1]) ∧ l.length ≤ 20 ∧ (l.length ≤ c' ∧ c' ≤ maxLen) ∧ Own encP 7 w' w.heap.size 25 (.slice A' l.length c') l ∧ Below w.heap.size w w' := by
  have hC0 := Cur.new (c := c) h hl hby
  have hb0 : Below w.heap.size w (w.alloc (.cells #[.slice A code.length c, .int .i64 0, .int .u64 0] 84)) := by (repeat (first | with_reducible exact Below.refl _ _ | with_reducible assumption | with_reducible refine Below.setCell ?_ (by simp <;> omega) _ | with_reducible refine Below.alloc ?_ (by first | omega | (simp <;> omega)) _ | with_reducible refine Below.drew ?_ | with_reducible refine below_drewN ?_ _))
  clear hby
  go_enter Try.func51, Try.ntmps51
  go_wp2_with fail
  refine (onsets_any w.heap.size 0 _ hC0 (by omega)).mono ?_
  rintro e w1 ⟨v, l, rfl, hll, hown, hC, hg⟩
  have HB1 := Lib.hid (below_of_cur hb0 (Nat.le_refl _) hg)
  have HO := Lib.hid (hown.mono (show w.heap.size ≤ _ by simp))
  have HC1 := Lib.hid hC
  have hs1 := HB1.out.size
  obtain ⟨A1, c1, rfl, hcc, _⟩ := Own.form encP_len hown
  have hne1 := Lib.hid (fun b o (e9 : A1 = some ⟨b, o, none⟩) (hn9 : l ≠ []) => (show b ≠ w.heap.size from by
    intro e8
    subst e8
    obtain ⟨g8, cs8, e7, hb7, _⟩ := hown.blk (by cases l with | nil => exact absurd rfl hn9 | cons _ _ => simp)
    rw [e9] at e7
    injection e7 with e7
    injection e7 with e7
    simp at hb7; omega))
  clear hC hg hown hC0 hb0
  go_wp2_with fail
  refine (onsetId_any w.heap.size _ 0 c1 l _ HC1.out (by omega) A1 (Own.rd' encP_len HO.out) hne1.out (by omega)).mono ?_
  rintro e w2 ⟨x1, rfl, hC, hg⟩
  have HB2 := Lib.hid (below_of_cur HB1.out (by omega) hg)
  have HO_2 := Lib.hid (HO.out.cur HC1.out hg (by decide))
  clear HO
  have HC2 := Lib.hid hC
  have hs2 := HB2.out.size
  clear hC hg HC1
  go_wp2
  go_ret2
  exact ⟨A1, c1, l, _, rfl, hll, hcc, HO_2.out, HB2.out⟩
set_option maxRecDepth 100000 in
set_option maxHeartbeats 2000000 in
theorem DrawWindowOf_any (A : Option Addr) (c : Nat) (code : List Int) (w : World) (h : Rd encB 1 w w.heap.size A code) (hl : code.length ≤ 1048576) (hby : ∀ n ∈ code, 0 ≤ n ∧ n ≤ 255) :
    Calls Try.prog 58 #[.slice A code.length c] w fun e w' => ∃ A' c' l d1, e = .returned (.tuple #[.slice A' l.length c', .int .i64 d1]) ∧ l.length ≤ 20 ∧ (l.length ≤ c' ∧ c' ≤ maxLen) ∧ Own encP 7 w' w.heap.size 25 (.slice A' l.length c') l ∧ Below w.heap.size w w' := by
  go_enter Try.func58, Try.ntmps58
  go_wp2_with fail
  refine (DrawHistoryOf_any A c code w h hl hby).mono ?_
  rintro e w1 ⟨A1, c1, l, d1, rfl, hll, hcc, hown, hb⟩
  have HO1 := Lib.hid hown
  clear hown
  go_wp2
  go_ret2
  exact ⟨A1, c1, l, d1, rfl, hll, hcc, HO1.out, hb⟩
set_option maxRecDepth 100000 in
set_option maxHeartbeats 2000000 in
theorem DrawPairedPicks_any (A : Option Addr) (c : Nat) (code : List Int) (w : World) (h : Rd encB 1 w w.heap.size A code) (hl : code.length ≤ 1048576) (hby : ∀ n ∈ code, 0 ≤ n ∧ n ≤ 255) :
    Calls Try.prog 56 #[.slice A code.length c] w fun e w' => ∃ A' c' l d1, e = .returned (.tuple #[.slice A' l.length c', .int .i64 d1]) ∧ l.length ≤ 20 ∧ (l.length ≤ c' ∧ c' ≤ maxLen) ∧ Own encP 7 w' w.heap.size 25 (.slice A' l.length c') l ∧ Below w.heap.size w w' := by
  have hC0 := Cur.new (c := c) h hl hby
  have hb0 : Below w.heap.size w (w.alloc (.cells #[.slice A code.length c, .int .i64 0, .int .u64 0] 84)) := by (repeat (first | with_reducible exact Below.refl _ _ | with_reducible assumption | with_reducible refine Below.setCell ?_ (by simp <;> omega) _ | with_reducible refine Below.alloc ?_ (by first | omega | (simp <;> omega)) _ | with_reducible refine Below.drew ?_ | with_reducible refine below_drewN ?_ _))
  clear hby
  go_enter Try.func56, Try.ntmps56
  go_wp2_with fail
  refine (onsets_any w.heap.size 0 _ hC0 (by omega)).mono ?_
  rintro e w1 ⟨v, l, rfl, hll, hown, hC, hg⟩
  have HB1 := Lib.hid (below_of_cur hb0 (Nat.le_refl _) hg)
  have HO := Lib.hid (hown.mono (show w.heap.size ≤ _ by simp))
  have HC1 := Lib.hid hC
  have hs1 := HB1.out.size
  obtain ⟨A1, c1, rfl, hcc, _⟩ := Own.form encP_len hown
  have hne1 := Lib.hid (fun b o (e9 : A1 = some ⟨b, o, none⟩) (hn9 : l ≠ []) => (show b ≠ w.heap.size from by
    intro e8
    subst e8
    obtain ⟨g8, cs8, e7, hb7, _⟩ := hown.blk (by cases l with | nil => exact absurd rfl hn9 | cons _ _ => simp)
    rw [e9] at e7
    injection e7 with e7
    injection e7 with e7
    simp at hb7; omega))
  clear hC hg hown hC0 hb0
  have hbl1 : Below w1.heap.size w1 (w1.alloc (.cells #[.int .i64 1, .int .i64 1, .int .i64 2, .int .i64 99, .int .i64 0, .int .i64 100] 3)) := by (repeat (first | with_reducible exact Below.refl _ _ | with_reducible assumption | with_reducible refine Below.setCell ?_ (by simp <;> omega) _ | with_reducible refine Below.alloc ?_ (by first | omega | (simp <;> omega)) _ | with_reducible refine Below.drew ?_ | with_reducible refine below_drewN ?_ _))
  have HL1 := Lib.hid (Blk.new w1 3 #[.int .i64 1, .int .i64 1, .int .i64 2, .int .i64 99, .int .i64 0, .int .i64 100])
  have hLg1 : w.heap.size < w1.heap.size := HC1.out.lt
  have HC1x := Lib.hid (HC1.out.after hbl1)
  have HB1x := Lib.hid (HB1.out.trans (hbl1.mono HB1.out.size))
  have HO_x := Lib.hid (HO.out.keep hbl1)
  clear hbl1 HC1
  have HC2 := HC1x
  have HB2 := HB1x
  clear HC1x HB1x
  go_wp2_with fail
  refine (pick_any w.heap.size _ 24 _ HC2.out (by omega) (by omega)).mono ?_
  rintro e w3 ⟨x1p, rfl, ⟨hx1p0, hx⟩, hC, hg⟩
  have HB3 := Lib.hid (below_of_cur HB2.out (by omega) hg)
  have HL_3 := Lib.hid (HL1.out.grown hg (by intro e9; injection e9; omega))
  clear HL1
  have HO_3 := Lib.hid (HO_x.out.cur HC2.out hg (by decide))
  clear HO_x
  have HC3 := Lib.hid hC
  have hs3 := HB3.out.size
  clear hC hg HC2
  have hx1p1 : x1p ≤ 23 := by omega
  clear hx
  go_wp2_with fail
  refine (among_blk w.heap.size _ [1, 1, 2, 99, 0, 100] #[.int .i64 1, .int .i64 1, .int .i64 2, .int .i64 99, .int .i64 0, .int .i64 100] _ _ _ _ (by rfl) (by simp <;> omega) (by omega) (by omega) HL_3.out (by omega) HC3.out (by omega)).mono ?_
  rintro e w4 ⟨x1, rfl, _, hC, hg⟩
  have HB4 := Lib.hid (below_of_cur HB3.out (by omega) hg)
  have HL_4 := Lib.hid (HL_3.out.grown hg (by intro e9; injection e9; omega))
  clear HL_3
  have HO_4 := Lib.hid (HO_3.out.cur HC3.out hg (by decide))
  clear HO_3
  have HC4 := Lib.hid hC
  have hs4 := HB4.out.size
  clear hC hg HC3
  clear HL_4
  go_wp2
  go_ret2
  exact ⟨A1, c1, l, _, rfl, hll, hcc, HO_4.out, HB4.out⟩
set_option maxRecDepth 100000 in
set_option maxHeartbeats 2000000 in
theorem DrawRevisePick_any (A : Option Addr) (c : Nat) (code : List Int) (w : World) (h : Rd encB 1 w w.heap.size A code) (hl : code.length ≤ 1048576) (hby : ∀ n ∈ code, 0 ≤ n ∧ n ≤ 255) :
    Calls Try.prog 48 #[.slice A code.length c] w fun e w' => ∃ A' c' l d1 d2 d3 d4, e = .returned (.tuple #[.slice A' l.length c', .int .i64 d1, .int .i64 d2, .int .i64 d3, .int .i64 d4]) ∧ l.length ≤ 20 ∧ (l.length ≤ c' ∧ c' ≤ maxLen) ∧ Own encP 7 w' w.heap.size 25 (.slice A' l.length c') l ∧ Below w.heap.size w w' := by
  have hC0 := Cur.new (c := c) h hl hby
  have hb0 : Below w.heap.size w (w.alloc (.cells #[.slice A code.length c, .int .i64 0, .int .u64 0] 84)) := by (repeat (first | with_reducible exact Below.refl _ _ | with_reducible assumption | with_reducible refine Below.setCell ?_ (by simp <;> omega) _ | with_reducible refine Below.alloc ?_ (by first | omega | (simp <;> omega)) _ | with_reducible refine Below.drew ?_ | with_reducible refine below_drewN ?_ _))
  clear hby
  go_enter Try.func48, Try.ntmps48
  go_wp2_with fail
  refine (onsets_any w.heap.size 0 _ hC0 (by omega)).mono ?_
  rintro e w1 ⟨v, l, rfl, hll, hown, hC, hg⟩
  have HB1 := Lib.hid (below_of_cur hb0 (Nat.le_refl _) hg)
  have HO := Lib.hid (hown.mono (show w.heap.size ≤ _ by simp))
  have HC1 := Lib.hid hC
  have hs1 := HB1.out.size
  obtain ⟨A1, c1, rfl, hcc, _⟩ := Own.form encP_len hown
  have hne1 := Lib.hid (fun b o (e9 : A1 = some ⟨b, o, none⟩) (hn9 : l ≠ []) => (show b ≠ w.heap.size from by
    intro e8
    subst e8
    obtain ⟨g8, cs8, e7, hb7, _⟩ := hown.blk (by cases l with | nil => exact absurd rfl hn9 | cons _ _ => simp)
    rw [e9] at e7
    injection e7 with e7
    injection e7 with e7
    simp at hb7; omega))
  clear hC hg hown hC0 hb0
  go_wp2_with fail
  refine (onsetId_any w.heap.size _ 0 c1 l _ HC1.out (by omega) A1 (Own.rd' encP_len HO.out) hne1.out (by omega)).mono ?_
  rintro e w2 ⟨x1, rfl, hC, hg⟩
  have HB2 := Lib.hid (below_of_cur HB1.out (by omega) hg)
  have HO_2 := Lib.hid (HO.out.cur HC1.out hg (by decide))
  clear HO
  have HC2 := Lib.hid hC
  have hs2 := HB2.out.size
  clear hC hg HC1
  have hbl2 : Below w2.heap.size w2 (w2.alloc (.cells #[.int .i64 0, .int .i64 101, .int .i64 1000000, .int .i64 (-1), .int .i64 1000001] 3)) := by (repeat (first | with_reducible exact Below.refl _ _ | with_reducible assumption | with_reducible refine Below.setCell ?_ (by simp <;> omega) _ | with_reducible refine Below.alloc ?_ (by first | omega | (simp <;> omega)) _ | with_reducible refine Below.drew ?_ | with_reducible refine below_drewN ?_ _))
  have HL2 := Lib.hid (Blk.new w2 3 #[.int .i64 0, .int .i64 101, .int .i64 1000000, .int .i64 (-1), .int .i64 1000001])
  have hLg2 : w.heap.size < w2.heap.size := HC2.out.lt
  have HC2x := Lib.hid (HC2.out.after hbl2)
  have HB2x := Lib.hid (HB2.out.trans (hbl2.mono HB2.out.size))
  have HO_2_x := Lib.hid (HO_2.out.keep hbl2)
  clear hbl2 HC2
  have HC3 := HC2x
  have HB3 := HB2x
  clear HC2x HB2x
  go_wp2_with fail
  refine (pick_any w.heap.size _ 24 _ HC3.out (by omega) (by omega)).mono ?_
  rintro e w4 ⟨x2p, rfl, ⟨hx2p0, hx⟩, hC, hg⟩
  have HB4 := Lib.hid (below_of_cur HB3.out (by omega) hg)
  have HL_4 := Lib.hid (HL2.out.grown hg (by intro e9; injection e9; omega))
  clear HL2
  have HO_4 := Lib.hid (HO_2_x.out.cur HC3.out hg (by decide))
  clear HO_2_x
  have HC4 := Lib.hid hC
  have hs4 := HB4.out.size
  clear hC hg HC3
  have hx2p1 : x2p ≤ 23 := by omega
  clear hx
  go_wp2_with fail
  refine (among_blk w.heap.size _ [0, 101, 1000000, -1, 1000001] #[.int .i64 0, .int .i64 101, .int .i64 1000000, .int .i64 (-1), .int .i64 1000001] _ _ _ _ (by rfl) (by simp <;> omega) (by omega) (by omega) HL_4.out (by omega) HC4.out (by omega)).mono ?_
  rintro e w5 ⟨x2, rfl, _, hC, hg⟩
  have HB5 := Lib.hid (below_of_cur HB4.out (by omega) hg)
  have HL_5 := Lib.hid (HL_4.out.grown hg (by intro e9; injection e9; omega))
  clear HL_4
  have HO_5 := Lib.hid (HO_4.out.cur HC4.out hg (by decide))
  clear HO_4
  have HC5 := Lib.hid hC
  have hs5 := HB5.out.size
  clear hC hg HC4
  clear HL_5
  have hbl5 : Below w5.heap.size w5 (w5.alloc (.cells #[.int .i64 0, .int .i64 5, .int .i64 1000, .int .i64 (-1), .int .i64 1001] 3)) := by (repeat (first | with_reducible exact Below.refl _ _ | with_reducible assumption | with_reducible refine Below.setCell ?_ (by simp <;> omega) _ | with_reducible refine Below.alloc ?_ (by first | omega | (simp <;> omega)) _ | with_reducible refine Below.drew ?_ | with_reducible refine below_drewN ?_ _))
  have HL5 := Lib.hid (Blk.new w5 3 #[.int .i64 0, .int .i64 5, .int .i64 1000, .int .i64 (-1), .int .i64 1001])
  have hLg5 : w.heap.size < w5.heap.size := HC5.out.lt
  have HC5x := Lib.hid (HC5.out.after hbl5)
  have HB5x := Lib.hid (HB5.out.trans (hbl5.mono HB5.out.size))
  have HO_5_x := Lib.hid (HO_5.out.keep hbl5)
  clear hbl5 HC5
  have HC6 := HC5x
  have HB6 := HB5x
  clear HC5x HB5x
  go_wp2_with fail
  refine (pick_any w.heap.size _ 24 _ HC6.out (by omega) (by omega)).mono ?_
  rintro e w7 ⟨x3p, rfl, ⟨hx3p0, hx⟩, hC, hg⟩
  have HB7 := Lib.hid (below_of_cur HB6.out (by omega) hg)
  have HL_7 := Lib.hid (HL5.out.grown hg (by intro e9; injection e9; omega))
  clear HL5
  have HO_7 := Lib.hid (HO_5_x.out.cur HC6.out hg (by decide))
  clear HO_5_x
  have HC7 := Lib.hid hC
  have hs7 := HB7.out.size
  clear hC hg HC6
  have hx3p1 : x3p ≤ 23 := by omega
  clear hx
  go_wp2_with fail
  refine (among_blk w.heap.size _ [0, 5, 1000, -1, 1001] #[.int .i64 0, .int .i64 5, .int .i64 1000, .int .i64 (-1), .int .i64 1001] _ _ _ _ (by rfl) (by simp <;> omega) (by omega) (by omega) HL_7.out (by omega) HC7.out (by omega)).mono ?_
  rintro e w8 ⟨x3, rfl, _, hC, hg⟩
  have HB8 := Lib.hid (below_of_cur HB7.out (by omega) hg)
  have HL_8 := Lib.hid (HL_7.out.grown hg (by intro e9; injection e9; omega))
  clear HL_7
  have HO_8 := Lib.hid (HO_7.out.cur HC7.out hg (by decide))
  clear HO_7
  have HC8 := Lib.hid hC
  have hs8 := HB8.out.size
  clear hC hg HC7
  clear HL_8
  have hbl8 : Below w8.heap.size w8 (w8.alloc (.cells #[.int .i64 0, .int .i64 1, .int .i64 50, .int .i64 (-1), .int .i64 51] 3)) := by (repeat (first | with_reducible exact Below.refl _ _ | with_reducible assumption | with_reducible refine Below.setCell ?_ (by simp <;> omega) _ | with_reducible refine Below.alloc ?_ (by first | omega | (simp <;> omega)) _ | with_reducible refine Below.drew ?_ | with_reducible refine below_drewN ?_ _))
  have HL8 := Lib.hid (Blk.new w8 3 #[.int .i64 0, .int .i64 1, .int .i64 50, .int .i64 (-1), .int .i64 51])
  have hLg8 : w.heap.size < w8.heap.size := HC8.out.lt
  have HC8x := Lib.hid (HC8.out.after hbl8)
  have HB8x := Lib.hid (HB8.out.trans (hbl8.mono HB8.out.size))
  have HO_8_x := Lib.hid (HO_8.out.keep hbl8)
  clear hbl8 HC8
  have HC9 := HC8x
  have HB9 := HB8x
  clear HC8x HB8x
  go_wp2_with fail
  refine (pick_any w.heap.size _ 24 _ HC9.out (by omega) (by omega)).mono ?_
  rintro e w10 ⟨x4p, rfl, ⟨hx4p0, hx⟩, hC, hg⟩
  have HB10 := Lib.hid (below_of_cur HB9.out (by omega) hg)
  have HL_10 := Lib.hid (HL8.out.grown hg (by intro e9; injection e9; omega))
  clear HL8
  have HO_10 := Lib.hid (HO_8_x.out.cur HC9.out hg (by decide))
  clear HO_8_x
  have HC10 := Lib.hid hC
  have hs10 := HB10.out.size
  clear hC hg HC9
  have hx4p1 : x4p ≤ 23 := by omega
  clear hx
  go_wp2_with fail
  refine (among_blk w.heap.size _ [0, 1, 50, -1, 51] #[.int .i64 0, .int .i64 1, .int .i64 50, .int .i64 (-1), .int .i64 51] _ _ _ _ (by rfl) (by simp <;> omega) (by omega) (by omega) HL_10.out (by omega) HC10.out (by omega)).mono ?_
  rintro e w11 ⟨x4, rfl, _, hC, hg⟩
  have HB11 := Lib.hid (below_of_cur HB10.out (by omega) hg)
  have HL_11 := Lib.hid (HL_10.out.grown hg (by intro e9; injection e9; omega))
  clear HL_10
  have HO_11 := Lib.hid (HO_10.out.cur HC10.out hg (by decide))
  clear HO_10
  have HC11 := Lib.hid hC
  have hs11 := HB11.out.size
  clear hC hg HC10
  clear HL_11
  go_wp2
  exact bodyPost_ret (v := .tuple #[.slice A1 l.length c1, .int .i64 x1, .int .i64 x2, .int .i64 x3, .int .i64 x4]) (by simp [results, Try.results48, go_sem]) rfl ⟨A1, c1, l, x1, x2, x3, x4, rfl, hll, hcc, HO_11.out, HB11.out⟩
set_option maxRecDepth 100000 in
set_option maxHeartbeats 2000000 in
theorem DrawIsPick_any (A : Option Addr) (c : Nat) (code : List Int) (w : World) (h : Rd encB 1 w w.heap.size A code) (hl : code.length ≤ 1048576) (hby : ∀ n ∈ code, 0 ≤ n ∧ n ≤ 255) :
    Calls Try.prog 55 #[.slice A code.length c] w fun e w' => ∃ x : Pick, e = .returned (.agg #[.int .i64 x.id, .int .i64 x.station, .int .i64 x.wave, .int .i64 x.tick, .int .i64 x.err, .int .i64 x.by_, .int .i64 x.after_]) ∧ Below w.heap.size w w' := by
  have hbz : Below w.heap.size w (w.alloc (.cells #[.int .i64 0, .int .i64 0, .int .i64 0, .int .i64 0, .int .i64 0, .int .i64 0, .int .i64 0] 25)) := by (repeat (first | with_reducible exact Below.refl _ _ | with_reducible assumption | with_reducible refine Below.setCell ?_ (by simp <;> omega) _ | with_reducible refine Below.alloc ?_ (by first | omega | (simp <;> omega)) _ | with_reducible refine Below.drew ?_ | with_reducible refine below_drewN ?_ _))
  have hC0 : Cur ((w.alloc (.cells #[.int .i64 0, .int .i64 0, .int .i64 0, .int .i64 0, .int .i64 0, .int .i64 0, .int .i64 0] 25)).alloc (.cells #[.slice A code.length c, .int .i64 0, .int .u64 0] 84)) (w.heap.size + 1) 0 := by have hq := Cur.new (c := c) ((h.below hbz).more hbz.size) hl hby; simp at hq; exact hq
  have HB0 : Hid (Below w.heap.size w ((w.alloc (.cells #[.int .i64 0, .int .i64 0, .int .i64 0, .int .i64 0, .int .i64 0, .int .i64 0, .int .i64 0] 25)).alloc (.cells #[.slice A code.length c, .int .i64 0, .int .u64 0] 84))) := by show Below _ _ _; (repeat (first | with_reducible exact Below.refl _ _ | with_reducible assumption | with_reducible refine Below.setCell ?_ (by simp <;> omega) _ | with_reducible refine Below.alloc ?_ (by first | omega | (simp <;> omega)) _ | with_reducible refine Below.drew ?_ | with_reducible refine below_drewN ?_ _))
  have HZ : Hid (Blk ((w.alloc (.cells #[.int .i64 0, .int .i64 0, .int .i64 0, .int .i64 0, .int .i64 0, .int .i64 0, .int .i64 0] 25)).alloc (.cells #[.slice A code.length c, .int .i64 0, .int .u64 0] 84)) w.heap.size 25 #[.int .i64 0, .int .i64 0, .int .i64 0, .int .i64 0, .int .i64 0, .int .i64 0, .int .i64 0]) := (Blk.new w _ _).alloc _
  have HC0 := Lib.hid hC0
  clear hby hC0 hbz
  go_enter Try.func55, Try.ntmps55
  go_wp2_with fail
  refine (among_lit (w.heap.size + 1) _ [1, 42, 9999] _ 3 _ _ (by rfl) (by rfl) (by simp) HC0.out (by omega) (by omega) (by omega)).mono ?_
  rintro e w1 ⟨x1, rfl, hx, hC, hg⟩
  have HB1 := Lib.hid (below_of_cur HB0.out (by omega) hg)
  have HZ_1 := Lib.hid (HZ.out.grown hg (by intro e9; injection e9; omega))
  clear HZ
  have HC1 := Lib.hid hC
  have hs1 := HB1.out.size
  clear hC hg HC0
  have hx1 : 1 ≤ x1 ∧ x1 ≤ 9999 := by simp at hx; omega
  obtain ⟨hx10, hx11⟩ := hx1
  clear hx
  go_wp2_with fail
  refine (onset_any (w.heap.size + 1) _ x1 _ HC1.out (by omega) (by omega) (by omega)).mono ?_
  rintro e w2 ⟨x, rfl, hC, hg⟩
  have HB2 := Lib.hid (below_of_cur HB1.out (by omega) hg)
  have HZ_2 := Lib.hid (HZ_1.out.grown hg (by intro e9; injection e9; omega))
  clear HZ_1
  have HC2 := Lib.hid hC
  have hs2 := HB2.out.size
  clear hC hg HC1
  have hZ := HZ_2.out
  obtain ⟨z0, z1, z2, z3, z4, z5, z6⟩ := box7 hZ
  have f0 := hZ.frozen 0
  have f1 := hZ.frozen 1
  have f2 := hZ.frozen 2
  have f3 := hZ.frozen 3
  have f4 := hZ.frozen 4
  have f5 := hZ.frozen 5
  have f6 := hZ.frozen 6
  have hbz : Below w.heap.size w2 (World.setCell (World.setCell (World.setCell (World.setCell (World.setCell (World.setCell (World.setCell w2 ⟨w.heap.size, 0, none⟩ (.int .i64 x.id)) ⟨w.heap.size, 1, none⟩ (.int .i64 x.station)) ⟨w.heap.size, 2, none⟩ (.int .i64 x.wave)) ⟨w.heap.size, 3, none⟩ (.int .i64 x.tick)) ⟨w.heap.size, 4, none⟩ (.int .i64 x.err)) ⟨w.heap.size, 5, none⟩ (.int .i64 x.by_)) ⟨w.heap.size, 6, none⟩ (.int .i64 x.after_)) := by (repeat (first | with_reducible exact Below.refl _ _ | with_reducible assumption | with_reducible refine Below.setCell ?_ (by simp <;> omega) _ | with_reducible refine Below.alloc ?_ (by first | omega | (simp <;> omega)) _ | with_reducible refine Below.drew ?_ | with_reducible refine below_drewN ?_ _))
  have hR : Blk (World.setCell (World.setCell (World.setCell (World.setCell (World.setCell (World.setCell (World.setCell w2 ⟨w.heap.size, 0, none⟩ (.int .i64 x.id)) ⟨w.heap.size, 1, none⟩ (.int .i64 x.station)) ⟨w.heap.size, 2, none⟩ (.int .i64 x.wave)) ⟨w.heap.size, 3, none⟩ (.int .i64 x.tick)) ⟨w.heap.size, 4, none⟩ (.int .i64 x.err)) ⟨w.heap.size, 5, none⟩ (.int .i64 x.by_)) ⟨w.heap.size, 6, none⟩ (.int .i64 x.after_)) w.heap.size 25 #[.int .i64 x.id, .int .i64 x.station, .int .i64 x.wave, .int .i64 x.tick, .int .i64 x.err, .int .i64 x.by_, .int .i64 x.after_] := (((((((hZ.set_ 0 _).set_ 1 _).set_ 2 _).set_ 3 _).set_ 4 _).set_ 5 _).set_ 6 _)
  have HRR := Lib.hid (box7 hR)
  have HBz := Lib.hid (HB2.out.trans hbz)
  clear hZ hR hbz
  go_wp2
  obtain ⟨r0, r1, r2, r3, r4, r5, r6⟩ := HRR.out
  exact bodyPost_ret (v := .agg #[.int .i64 x.id, .int .i64 x.station, .int .i64 x.wave, .int .i64 x.tick, .int .i64 x.err, .int .i64 x.by_, .int .i64 x.after_]) (by simp [results, Try.results55, go_sem, r0, r1, r2, r3, r4, r5, r6]) rfl ⟨x, rfl, HBz.out⟩

end Go.Proofs.Ytiakaglgfboepaa
