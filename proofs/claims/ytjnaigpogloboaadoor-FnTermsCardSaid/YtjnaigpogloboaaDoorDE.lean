/-
  Contracts of the exported functions that draw tables and swings. (Printed by gen_E11.py.)
-/
import Derived.Test.YtjnaigpogloboaaDoorDSws
namespace Go.Proofs.YtjnaigpogloboaaDoor
set_option linter.unusedVariables false
open Go.RowKit
set_option maxRecDepth 100000 in
set_option maxHeartbeats 2000000 in
theorem DrawLeastWidth_any (A : Option Addr) (c : Nat) (code : List Int) (w : World) (h : Rd encB 1 w w.heap.size A code) (hl : code.length ≤ 1048576) (hby : ∀ n ∈ code, 0 ≤ n ∧ n ≤ 255) :
    Calls Tryd.prog 40 #[.slice A code.length c] w fun e w' => ∃ A' c' l d1 d2, e = .returned (.tuple #[.slice A' l.length c', .int .i64 d1, .int .i64 d2]) ∧ l.length ≤ 20 ∧ (l.length ≤ c' ∧ c' ≤ maxLen) ∧ Own encT 2 w' w.heap.size 76 (.slice A' l.length c') l ∧ Below w.heap.size w w' := by
  have hC0 := Cur.new (c := c) h hl hby
  have hb0 : Below w.heap.size w (w.alloc (.cells #[.slice A code.length c, .int .i64 0, .int .u64 0] 89)) := by (repeat (first | with_reducible exact Below.refl _ _ | with_reducible assumption | with_reducible refine Below.setCell ?_ (by simp <;> omega) _ | with_reducible refine Below.alloc ?_ (by first | omega | (simp <;> omega)) _ | with_reducible refine Below.drew ?_ | with_reducible refine below_drewN ?_ _))
  clear hby
  go_enter Tryd.func40, Tryd.ntmps40
  go_wp2_with fail
  refine (table11_any w.heap.size 0 _ hC0 (by omega)).mono ?_
  rintro e w1 ⟨v, l, rfl, hll, hown, hC, hg⟩
  have HB1 := Lib.hid (below_of_cur hb0 (Nat.le_refl _) hg)
  have HO := Lib.hid (hown.mono (show w.heap.size ≤ _ by simp))
  have HC1 := Lib.hid hC
  have hs1 := HB1.out.size
  obtain ⟨A1, c1, rfl, hcc, _⟩ := Own.form encT_len hown
  clear hC hg hown hC0 hb0
  have hbl1 : Below w1.heap.size w1 (w1.alloc (.cells #[.int .i64 0, .int .i64 5, .int .i64 12, .int .i64 60, .int .i64 1500, .int .i64 (-1), .int .i64 1501] 3)) := by (repeat (first | with_reducible exact Below.refl _ _ | with_reducible assumption | with_reducible refine Below.setCell ?_ (by simp <;> omega) _ | with_reducible refine Below.alloc ?_ (by first | omega | (simp <;> omega)) _ | with_reducible refine Below.drew ?_ | with_reducible refine below_drewN ?_ _))
  have HL1 := Lib.hid (Blk.new w1 3 #[.int .i64 0, .int .i64 5, .int .i64 12, .int .i64 60, .int .i64 1500, .int .i64 (-1), .int .i64 1501])
  have hLg1 : w.heap.size < w1.heap.size := HC1.out.lt
  have HC1x := Lib.hid (HC1.out.after hbl1)
  have HB1x := Lib.hid (HB1.out.trans (hbl1.mono HB1.out.size))
  have HO_x := Lib.hid (HO.out.keep hbl1)
  clear hbl1 HC1
  have HC2 := HC1x
  have HB2 := HB1x
  clear HC1x HB1x
  go_wp2_with fail
  refine (pick_any w.heap.size _ 24 _ HC2.out (by omega) (by omega)).mono ?_
  rintro e w3 ⟨x1p, rfl, ⟨hx1p0, hx⟩, hC, hg⟩
  have HB3 := Lib.hid (below_of_cur HB2.out (by omega) hg)
  have HL_3 := Lib.hid (HL1.out.grown hg (by intro e9; injection e9; omega))
  clear HL1
  have HO_3 := Lib.hid (HO_x.out.cur HC2.out hg (by decide))
  clear HO_x
  have HC3 := Lib.hid hC
  have hs3 := HB3.out.size
  clear hC hg HC2
  have hx1p1 : x1p ≤ 23 := by omega
  clear hx
  go_wp2_with fail
  refine (among_blk w.heap.size _ [0, 5, 12, 60, 1500, -1, 1501] #[.int .i64 0, .int .i64 5, .int .i64 12, .int .i64 60, .int .i64 1500, .int .i64 (-1), .int .i64 1501] _ _ _ _ (by rfl) (by simp <;> omega) (by omega) (by omega) HL_3.out (by omega) HC3.out (by omega)).mono ?_
  rintro e w4 ⟨x1, rfl, _, hC, hg⟩
  have HB4 := Lib.hid (below_of_cur HB3.out (by omega) hg)
  have HL_4 := Lib.hid (HL_3.out.grown hg (by intro e9; injection e9; omega))
  clear HL_3
  have HO_4 := Lib.hid (HO_3.out.cur HC3.out hg (by decide))
  clear HO_3
  have HC4 := Lib.hid hC
  have hs4 := HB4.out.size
  clear hC hg HC3
  clear HL_4
  have hbl4 : Below w4.heap.size w4 (w4.alloc (.cells #[.int .i64 (-1000), .int .i64 0, .int .i64 99, .int .i64 250, .int .i64 600, .int .i64 2000, .int .i64 (-1001), .int .i64 2001] 3)) := by (repeat (first | with_reducible exact Below.refl _ _ | with_reducible assumption | with_reducible refine Below.setCell ?_ (by simp <;> omega) _ | with_reducible refine Below.alloc ?_ (by first | omega | (simp <;> omega)) _ | with_reducible refine Below.drew ?_ | with_reducible refine below_drewN ?_ _))
  have HL4 := Lib.hid (Blk.new w4 3 #[.int .i64 (-1000), .int .i64 0, .int .i64 99, .int .i64 250, .int .i64 600, .int .i64 2000, .int .i64 (-1001), .int .i64 2001])
  have hLg4 : w.heap.size < w4.heap.size := HC4.out.lt
  have HC4x := Lib.hid (HC4.out.after hbl4)
  have HB4x := Lib.hid (HB4.out.trans (hbl4.mono HB4.out.size))
  have HO_4_x := Lib.hid (HO_4.out.keep hbl4)
  clear hbl4 HC4
  have HC5 := HC4x
  have HB5 := HB4x
  clear HC4x HB4x
  go_wp2_with fail
  refine (pick_any w.heap.size _ 24 _ HC5.out (by omega) (by omega)).mono ?_
  rintro e w6 ⟨x2p, rfl, ⟨hx2p0, hx⟩, hC, hg⟩
  have HB6 := Lib.hid (below_of_cur HB5.out (by omega) hg)
  have HL_6 := Lib.hid (HL4.out.grown hg (by intro e9; injection e9; omega))
  clear HL4
  have HO_6 := Lib.hid (HO_4_x.out.cur HC5.out hg (by decide))
  clear HO_4_x
  have HC6 := Lib.hid hC
  have hs6 := HB6.out.size
  clear hC hg HC5
  have hx2p1 : x2p ≤ 23 := by omega
  clear hx
  go_wp2_with fail
  refine (among_blk w.heap.size _ [-1000, 0, 99, 250, 600, 2000, -1001, 2001] #[.int .i64 (-1000), .int .i64 0, .int .i64 99, .int .i64 250, .int .i64 600, .int .i64 2000, .int .i64 (-1001), .int .i64 2001] _ _ _ _ (by rfl) (by simp <;> omega) (by omega) (by omega) HL_6.out (by omega) HC6.out (by omega)).mono ?_
  rintro e w7 ⟨x2, rfl, _, hC, hg⟩
  have HB7 := Lib.hid (below_of_cur HB6.out (by omega) hg)
  have HL_7 := Lib.hid (HL_6.out.grown hg (by intro e9; injection e9; omega))
  clear HL_6
  have HO_7 := Lib.hid (HO_6.out.cur HC6.out hg (by decide))
  clear HO_6
  have HC7 := Lib.hid hC
  have hs7 := HB7.out.size
  clear hC hg HC6
  clear HL_7
  go_wp2
  go_ret3
  exact ⟨A1, c1, l, x1, x2, rfl, hll, hcc, HO_7.out, HB7.out⟩
set_option maxRecDepth 100000 in
set_option maxHeartbeats 2000000 in
theorem DrawBonusAt_any (A : Option Addr) (c : Nat) (code : List Int) (w : World) (h : Rd encB 1 w w.heap.size A code) (hl : code.length ≤ 1048576) (hby : ∀ n ∈ code, 0 ≤ n ∧ n ≤ 255) :
    Calls Tryd.prog 42 #[.slice A code.length c] w fun e w' => ∃ A' c' l d1, e = .returned (.tuple #[.slice A' l.length c', .int .i64 d1]) ∧ l.length ≤ 20 ∧ (l.length ≤ c' ∧ c' ≤ maxLen) ∧ Own encT 2 w' w.heap.size 76 (.slice A' l.length c') l ∧ (-1 ≤ d1 ∧ d1 ≤ 1501) ∧ Below w.heap.size w w' := by
  have hC0 := Cur.new (c := c) h hl hby
  have hb0 : Below w.heap.size w (w.alloc (.cells #[.slice A code.length c, .int .i64 0, .int .u64 0] 89)) := by (repeat (first | with_reducible exact Below.refl _ _ | with_reducible assumption | with_reducible refine Below.setCell ?_ (by simp <;> omega) _ | with_reducible refine Below.alloc ?_ (by first | omega | (simp <;> omega)) _ | with_reducible refine Below.drew ?_ | with_reducible refine below_drewN ?_ _))
  clear hby
  go_enter Tryd.func42, Tryd.ntmps42
  go_wp2_with fail
  refine (table11_any w.heap.size 0 _ hC0 (by omega)).mono ?_
  rintro e w1 ⟨v, l, rfl, hll, hown, hC, hg⟩
  have HB1 := Lib.hid (below_of_cur hb0 (Nat.le_refl _) hg)
  have HO := Lib.hid (hown.mono (show w.heap.size ≤ _ by simp))
  have HC1 := Lib.hid hC
  have hs1 := HB1.out.size
  obtain ⟨A1, c1, rfl, hcc, _⟩ := Own.form encT_len hown
  clear hC hg hown hC0 hb0
  have hbl1 : Below w1.heap.size w1 (w1.alloc (.cells #[.int .i64 0, .int .i64 5, .int .i64 10, .int .i64 12, .int .i64 60, .int .i64 200, .int .i64 1500, .int .i64 (-1), .int .i64 1501] 3)) := by (repeat (first | with_reducible exact Below.refl _ _ | with_reducible assumption | with_reducible refine Below.setCell ?_ (by simp <;> omega) _ | with_reducible refine Below.alloc ?_ (by first | omega | (simp <;> omega)) _ | with_reducible refine Below.drew ?_ | with_reducible refine below_drewN ?_ _))
  have HL1 := Lib.hid (Blk.new w1 3 #[.int .i64 0, .int .i64 5, .int .i64 10, .int .i64 12, .int .i64 60, .int .i64 200, .int .i64 1500, .int .i64 (-1), .int .i64 1501])
  have hLg1 : w.heap.size < w1.heap.size := HC1.out.lt
  have HC1x := Lib.hid (HC1.out.after hbl1)
  have HB1x := Lib.hid (HB1.out.trans (hbl1.mono HB1.out.size))
  have HO_x := Lib.hid (HO.out.keep hbl1)
  clear hbl1 HC1
  have HC2 := HC1x
  have HB2 := HB1x
  clear HC1x HB1x
  go_wp2_with fail
  refine (pick_any w.heap.size _ 24 _ HC2.out (by omega) (by omega)).mono ?_
  rintro e w3 ⟨x1p, rfl, ⟨hx1p0, hx⟩, hC, hg⟩
  have HB3 := Lib.hid (below_of_cur HB2.out (by omega) hg)
  have HL_3 := Lib.hid (HL1.out.grown hg (by intro e9; injection e9; omega))
  clear HL1
  have HO_3 := Lib.hid (HO_x.out.cur HC2.out hg (by decide))
  clear HO_x
  have HC3 := Lib.hid hC
  have hs3 := HB3.out.size
  clear hC hg HC2
  have hx1p1 : x1p ≤ 23 := by omega
  clear hx
  go_wp2_with fail
  refine (among_blk w.heap.size _ [0, 5, 10, 12, 60, 200, 1500, -1, 1501] #[.int .i64 0, .int .i64 5, .int .i64 10, .int .i64 12, .int .i64 60, .int .i64 200, .int .i64 1500, .int .i64 (-1), .int .i64 1501] _ _ _ _ (by rfl) (by simp <;> omega) (by omega) (by omega) HL_3.out (by omega) HC3.out (by omega)).mono ?_
  rintro e w4 ⟨x1, rfl, hx, hC, hg⟩
  have HB4 := Lib.hid (below_of_cur HB3.out (by omega) hg)
  have HL_4 := Lib.hid (HL_3.out.grown hg (by intro e9; injection e9; omega))
  clear HL_3
  have HO_4 := Lib.hid (HO_3.out.cur HC3.out hg (by decide))
  clear HO_3
  have HC4 := Lib.hid hC
  have hs4 := HB4.out.size
  clear hC hg HC3
  have hx1 : -1 ≤ x1 ∧ x1 ≤ 1501 := by simp at hx; omega
  clear hx
  clear HL_4
  go_wp2
  go_ret2
  exact ⟨A1, c1, l, x1, rfl, hll, hcc, HO_4.out, hx1, HB4.out⟩
set_option maxRecDepth 100000 in
set_option maxHeartbeats 2000000 in
theorem DrawMedianMagnitude_any (A : Option Addr) (c : Nat) (code : List Int) (w : World) (h : Rd encB 1 w w.heap.size A code) (hl : code.length ≤ 1048576) (hby : ∀ n ∈ code, 0 ≤ n ∧ n ≤ 255) :
    Calls Tryd.prog 55 #[.slice A code.length c] w fun e w' => ∃ A' c' l A2' c2' l2, e = .returned (.tuple #[.slice A' l.length c', .slice A2' l2.length c2']) ∧ l.length ≤ 20 ∧ (l.length ≤ c' ∧ c' ≤ maxLen) ∧ Own encT 2 w' w.heap.size 76 (.slice A' l.length c') l ∧ l2.length ≤ 20 ∧ (l2.length ≤ c2' ∧ c2' ≤ maxLen) ∧ Own encS 4 w' w.heap.size 37 (.slice A2' l2.length c2') l2 ∧ Below w.heap.size w w' := by
  have hC0 := Cur.new (c := c) h hl hby
  have hb0 : Below w.heap.size w (w.alloc (.cells #[.slice A code.length c, .int .i64 0, .int .u64 0] 89)) := by (repeat (first | with_reducible exact Below.refl _ _ | with_reducible assumption | with_reducible refine Below.setCell ?_ (by simp <;> omega) _ | with_reducible refine Below.alloc ?_ (by first | omega | (simp <;> omega)) _ | with_reducible refine Below.drew ?_ | with_reducible refine below_drewN ?_ _))
  clear hby
  go_enter Tryd.func55, Tryd.ntmps55
  go_wp2_with fail
  refine (table11_any w.heap.size 0 _ hC0 (by omega)).mono ?_
  rintro e w1 ⟨v, l, rfl, hll, hown, hC, hg⟩
  have HB1 := Lib.hid (below_of_cur hb0 (Nat.le_refl _) hg)
  have HO := Lib.hid (hown.mono (show w.heap.size ≤ _ by simp))
  have HC1 := Lib.hid hC
  have hs1 := HB1.out.size
  obtain ⟨A1, c1, rfl, hcc, _⟩ := Own.form encT_len hown
  clear hC hg hown hC0 hb0
  go_wp2_with fail
  refine (swings_any w.heap.size _ _ HC1.out (by omega)).mono ?_
  rintro e w2 ⟨v2, l2, rfl, hll2, hown2, hC, hg⟩
  have HB2 := Lib.hid (below_of_cur HB1.out (by omega) hg)
  have HO_2 := Lib.hid (HO.out.cur HC1.out hg (by decide))
  clear HO
  have HC2 := Lib.hid hC
  have hs2 := HB2.out.size
  clear hC hg HC1
  have HO2 := Lib.hid (hown2.mono (show w.heap.size ≤ _ by omega))
  obtain ⟨A2, c2, rfl, hcc2, _⟩ := Own.form encS_len hown2
  clear hown2
  go_wp2
  go_ret2
  exact ⟨A1, c1, l, A2, c2, l2, rfl, hll, hcc, HO_2.out, hll2, hcc2, HO2.out, HB2.out⟩
set_option maxRecDepth 100000 in
set_option maxHeartbeats 2000000 in
theorem DrawResiduals_any (A : Option Addr) (c : Nat) (code : List Int) (w : World) (h : Rd encB 1 w w.heap.size A code) (hl : code.length ≤ 1048576) (hby : ∀ n ∈ code, 0 ≤ n ∧ n ≤ 255) :
    Calls Tryd.prog 49 #[.slice A code.length c] w fun e w' => ∃ A' c' l A2' c2' l2, e = .returned (.tuple #[.slice A' l.length c', .slice A2' l2.length c2']) ∧ l.length ≤ 20 ∧ (l.length ≤ c' ∧ c' ≤ maxLen) ∧ Own encT 2 w' w.heap.size 76 (.slice A' l.length c') l ∧ l2.length ≤ 20 ∧ (l2.length ≤ c2' ∧ c2' ≤ maxLen) ∧ Own encS 4 w' w.heap.size 37 (.slice A2' l2.length c2') l2 ∧ Below w.heap.size w w' := by
  go_enter Tryd.func49, Tryd.ntmps49
  go_wp2_with fail
  refine (DrawMedianMagnitude_any A c code w h hl hby).mono ?_
  rintro e w1 ⟨A1, c1, l, A2, c2, l2, rfl, hll, hcc, hown, hll2, hcc2, hown2, hb⟩
  have HO1 := Lib.hid hown
  have HO2 := Lib.hid hown2
  clear hown hown2
  go_wp2
  go_ret2
  exact ⟨A1, c1, l, A2, c2, l2, rfl, hll, hcc, HO1.out, hll2, hcc2, HO2.out, hb⟩
set_option maxRecDepth 100000 in
set_option maxHeartbeats 2000000 in
theorem DrawNewTerms_any (A : Option Addr) (c : Nat) (code : List Int) (w : World) (h : Rd encB 1 w w.heap.size A code) (hl : code.length ≤ 1048576) (hby : ∀ n ∈ code, 0 ≤ n ∧ n ≤ 255) :
    Calls Tryd.prog 52 #[.slice A code.length c] w fun e w' => ∃ A' c' l A2' c2' l2, e = .returned (.tuple #[.slice A' l.length c', .slice A2' l2.length c2']) ∧ l.length ≤ 20 ∧ (l.length ≤ c' ∧ c' ≤ maxLen) ∧ Own encT 2 w' w.heap.size 76 (.slice A' l.length c') l ∧ l2.length ≤ 20 ∧ (l2.length ≤ c2' ∧ c2' ≤ maxLen) ∧ Own encS 4 w' w.heap.size 37 (.slice A2' l2.length c2') l2 ∧ Below w.heap.size w w' := by
  go_enter Tryd.func52, Tryd.ntmps52
  go_wp2_with fail
  refine (DrawMedianMagnitude_any A c code w h hl hby).mono ?_
  rintro e w1 ⟨A1, c1, l, A2, c2, l2, rfl, hll, hcc, hown, hll2, hcc2, hown2, hb⟩
  have HO1 := Lib.hid hown
  have HO2 := Lib.hid hown2
  clear hown hown2
  go_wp2
  go_ret2
  exact ⟨A1, c1, l, A2, c2, l2, rfl, hll, hcc, HO1.out, hll2, hcc2, HO2.out, hb⟩
set_option maxRecDepth 100000 in
set_option maxHeartbeats 2000000 in
theorem DrawSizeOf_any (A : Option Addr) (c : Nat) (code : List Int) (w : World) (h : Rd encB 1 w w.heap.size A code) (hl : code.length ≤ 1048576) (hby : ∀ n ∈ code, 0 ≤ n ∧ n ≤ 255) :
    Calls Tryd.prog 41 #[.slice A code.length c] w fun e w' => ∃ d1, e = .returned (.int .i64 d1) ∧ (0 ≤ d1 ∧ d1 ≤ 1000001) ∧ Below w.heap.size w w' := by
  have hC0 := Cur.new (c := c) h hl hby
  have hb0 : Below w.heap.size w (w.alloc (.cells #[.slice A code.length c, .int .i64 0, .int .u64 0] 89)) := by (repeat (first | with_reducible exact Below.refl _ _ | with_reducible assumption | with_reducible refine Below.setCell ?_ (by simp <;> omega) _ | with_reducible refine Below.alloc ?_ (by first | omega | (simp <;> omega)) _ | with_reducible refine Below.drew ?_ | with_reducible refine below_drewN ?_ _))
  clear hby
  have HC0 := Lib.hid hC0
  have HB0 := Lib.hid hb0
  clear hC0 hb0
  go_enter Tryd.func41, Tryd.ntmps41
  have hsz : (w.alloc (.cells #[.slice A code.length c, .int .i64 0, .int .u64 0] 89)).heap.size = w.heap.size + 1 := by simp
  have HL : Hid (Blk ((w.alloc (.cells #[.slice A code.length c, .int .i64 0, .int .u64 0] 89)).alloc (.cells #[.int .i64 1, .int .i64 2, .int .i64 9, .int .i64 10, .int .i64 99, .int .i64 100, .int .i64 2500, .int .i64 1000000, .int .i64 0, .int .i64 1000001] 3)) (w.heap.size + 1) 3 #[.int .i64 1, .int .i64 2, .int .i64 9, .int .i64 10, .int .i64 99, .int .i64 100, .int .i64 2500, .int .i64 1000000, .int .i64 0, .int .i64 1000001]) := by
    have hq := Blk.new (w.alloc (.cells #[.slice A code.length c, .int .i64 0, .int .u64 0] 89)) 3 #[.int .i64 1, .int .i64 2, .int .i64 9, .int .i64 10, .int .i64 99, .int .i64 100, .int .i64 2500, .int .i64 1000000, .int .i64 0, .int .i64 1000001]
    rw [hsz] at hq
    exact hq
  have HCa := Lib.hid (HC0.out.after (show Below (w.alloc (.cells #[.slice A code.length c, .int .i64 0, .int .u64 0] 89)).heap.size (w.alloc (.cells #[.slice A code.length c, .int .i64 0, .int .u64 0] 89)) ((w.alloc (.cells #[.slice A code.length c, .int .i64 0, .int .u64 0] 89)).alloc (.cells #[.int .i64 1, .int .i64 2, .int .i64 9, .int .i64 10, .int .i64 99, .int .i64 100, .int .i64 2500, .int .i64 1000000, .int .i64 0, .int .i64 1000001] 3)) from by (repeat (first | with_reducible exact Below.refl _ _ | with_reducible assumption | with_reducible refine Below.setCell ?_ (by simp <;> omega) _ | with_reducible refine Below.alloc ?_ (by first | omega | (simp <;> omega)) _ | with_reducible refine Below.drew ?_ | with_reducible refine below_drewN ?_ _))))
  have HBa := Lib.hid (HB0.out.trans (show Below w.heap.size (w.alloc (.cells #[.slice A code.length c, .int .i64 0, .int .u64 0] 89)) ((w.alloc (.cells #[.slice A code.length c, .int .i64 0, .int .u64 0] 89)).alloc (.cells #[.int .i64 1, .int .i64 2, .int .i64 9, .int .i64 10, .int .i64 99, .int .i64 100, .int .i64 2500, .int .i64 1000000, .int .i64 0, .int .i64 1000001] 3)) from by (repeat (first | with_reducible exact Below.refl _ _ | with_reducible assumption | with_reducible refine Below.setCell ?_ (by simp <;> omega) _ | with_reducible refine Below.alloc ?_ (by first | omega | (simp <;> omega)) _ | with_reducible refine Below.drew ?_ | with_reducible refine below_drewN ?_ _))))
  clear HC0 HB0 hsz
  go_wp2_with fail
  refine (among_blk w.heap.size 0 [1, 2, 9, 10, 99, 100, 2500, 1000000, 0, 1000001] #[.int .i64 1, .int .i64 2, .int .i64 9, .int .i64 10, .int .i64 99, .int .i64 100, .int .i64 2500, .int .i64 1000000, .int .i64 0, .int .i64 1000001] 10 10 (w.heap.size + 1) _ (by rfl) (by simp) (by omega) (by omega) HL.out (by omega) HCa.out (by omega)).mono ?_
  rintro e w1 ⟨x1, rfl, hx, hC, hg⟩
  have hx1 : 0 ≤ x1 ∧ x1 ≤ 1000001 := by simp at hx; omega
  obtain ⟨hx10, hx11⟩ := hx1
  have HB1 := Lib.hid (below_of_cur HBa.out (Nat.le_refl _) hg)
  clear hx hC hg
  go_wp2
  go_ret
  exact ⟨x1, rfl, ⟨hx10, hx11⟩, HB1.out⟩
set_option maxRecDepth 100000 in
set_option maxHeartbeats 2000000 in
theorem DrawMagnitudeText_any (A : Option Addr) (c : Nat) (code : List Int) (w : World) (h : Rd encB 1 w w.heap.size A code) (hl : code.length ≤ 1048576) (hby : ∀ n ∈ code, 0 ≤ n ∧ n ≤ 255) :
    Calls Tryd.prog 46 #[.slice A code.length c] w fun e w' => ∃ d1, e = .returned (.int .i64 d1) ∧ Below w.heap.size w w' := by
  have hC0 := Cur.new (c := c) h hl hby
  have hb0 : Below w.heap.size w (w.alloc (.cells #[.slice A code.length c, .int .i64 0, .int .u64 0] 89)) := by (repeat (first | with_reducible exact Below.refl _ _ | with_reducible assumption | with_reducible refine Below.setCell ?_ (by simp <;> omega) _ | with_reducible refine Below.alloc ?_ (by first | omega | (simp <;> omega)) _ | with_reducible refine Below.drew ?_ | with_reducible refine below_drewN ?_ _))
  clear hby
  have HC0 := Lib.hid hC0
  have HB0 := Lib.hid hb0
  clear hC0 hb0
  go_enter Tryd.func46, Tryd.ntmps46
  have hsz : (w.alloc (.cells #[.slice A code.length c, .int .i64 0, .int .u64 0] 89)).heap.size = w.heap.size + 1 := by simp
  have HL : Hid (Blk ((w.alloc (.cells #[.slice A code.length c, .int .i64 0, .int .u64 0] 89)).alloc (.cells #[.int .i64 0, .int .i64 4, .int .i64 5, .int .i64 (-4), .int .i64 (-5), .int .i64 123, .int .i64 125, .int .i64 (-1000), .int .i64 2000, .int .i64 (-1001), .int .i64 2001] 3)) (w.heap.size + 1) 3 #[.int .i64 0, .int .i64 4, .int .i64 5, .int .i64 (-4), .int .i64 (-5), .int .i64 123, .int .i64 125, .int .i64 (-1000), .int .i64 2000, .int .i64 (-1001), .int .i64 2001]) := by
    have hq := Blk.new (w.alloc (.cells #[.slice A code.length c, .int .i64 0, .int .u64 0] 89)) 3 #[.int .i64 0, .int .i64 4, .int .i64 5, .int .i64 (-4), .int .i64 (-5), .int .i64 123, .int .i64 125, .int .i64 (-1000), .int .i64 2000, .int .i64 (-1001), .int .i64 2001]
    rw [hsz] at hq
    exact hq
  have HCa := Lib.hid (HC0.out.after (show Below (w.alloc (.cells #[.slice A code.length c, .int .i64 0, .int .u64 0] 89)).heap.size (w.alloc (.cells #[.slice A code.length c, .int .i64 0, .int .u64 0] 89)) ((w.alloc (.cells #[.slice A code.length c, .int .i64 0, .int .u64 0] 89)).alloc (.cells #[.int .i64 0, .int .i64 4, .int .i64 5, .int .i64 (-4), .int .i64 (-5), .int .i64 123, .int .i64 125, .int .i64 (-1000), .int .i64 2000, .int .i64 (-1001), .int .i64 2001] 3)) from by (repeat (first | with_reducible exact Below.refl _ _ | with_reducible assumption | with_reducible refine Below.setCell ?_ (by simp <;> omega) _ | with_reducible refine Below.alloc ?_ (by first | omega | (simp <;> omega)) _ | with_reducible refine Below.drew ?_ | with_reducible refine below_drewN ?_ _))))
  have HBa := Lib.hid (HB0.out.trans (show Below w.heap.size (w.alloc (.cells #[.slice A code.length c, .int .i64 0, .int .u64 0] 89)) ((w.alloc (.cells #[.slice A code.length c, .int .i64 0, .int .u64 0] 89)).alloc (.cells #[.int .i64 0, .int .i64 4, .int .i64 5, .int .i64 (-4), .int .i64 (-5), .int .i64 123, .int .i64 125, .int .i64 (-1000), .int .i64 2000, .int .i64 (-1001), .int .i64 2001] 3)) from by (repeat (first | with_reducible exact Below.refl _ _ | with_reducible assumption | with_reducible refine Below.setCell ?_ (by simp <;> omega) _ | with_reducible refine Below.alloc ?_ (by first | omega | (simp <;> omega)) _ | with_reducible refine Below.drew ?_ | with_reducible refine below_drewN ?_ _))))
  clear HC0 HB0 hsz
  go_wp2_with fail
  refine (pick_any w.heap.size 0 24 _ HCa.out (by omega) (by omega)).mono ?_
  rintro e w1 ⟨p, rfl, ⟨hp0, hx⟩, hC, hg⟩
  have HL1 := Lib.hid (HL.out.grown hg (by intro e9; injection e9; omega))
  have HB1 := Lib.hid (below_of_cur HBa.out (Nat.le_refl _) hg)
  have hp1 : p ≤ 23 := by omega
  have HC1 := Lib.hid hC
  clear hC hg hx HL HCa HBa
  go_wp2_with fail
  refine (among_blk w.heap.size 2 [0, 4, 5, -4, -5, 123, 125, -1000, 2000, -1001, 2001] #[.int .i64 0, .int .i64 4, .int .i64 5, .int .i64 (-4), .int .i64 (-5), .int .i64 123, .int .i64 125, .int .i64 (-1000), .int .i64 2000, .int .i64 (-1001), .int .i64 2001] _ _ (w.heap.size + 1) _ (by rfl) (by simp <;> omega) (by omega) (by omega) HL1.out (by omega) HC1.out (by omega)).mono ?_
  rintro e w2 ⟨x1, rfl, _, hC, hg⟩
  have HB2 := Lib.hid (below_of_cur HB1.out (Nat.le_refl _) hg)
  clear hC hg
  go_wp2
  go_ret
  exact ⟨x1, rfl, HB2.out⟩
set_option maxRecDepth 100000 in
set_option maxHeartbeats 2000000 in
theorem DrawMagnitudeOf_any (A : Option Addr) (c : Nat) (code : List Int) (w : World) (h : Rd encB 1 w w.heap.size A code) (hl : code.length ≤ 1048576) (hby : ∀ n ∈ code, 0 ≤ n ∧ n ≤ 255) :
    Calls Tryd.prog 45 #[.slice A code.length c] w fun e w' => ∃ (A' : Option Addr) (c' : Nat) (l : List TableRow) (x : Swing), e = .returned (.tuple #[.slice A' l.length c', .agg #[.int .i64 x.station, .int .i64 x.far, .int .i64 x.width, .int .i64 x.term]]) ∧ l.length ≤ 20 ∧ (l.length ≤ c' ∧ c' ≤ maxLen) ∧ Own encT 2 w' w.heap.size 76 (.slice A' l.length c') l ∧ Below w.heap.size w w' := by
  have hbz : Below w.heap.size w (w.alloc (.cells #[.int .i64 0, .int .i64 0, .int .i64 0, .int .i64 0] 37)) := by (repeat (first | with_reducible exact Below.refl _ _ | with_reducible assumption | with_reducible refine Below.setCell ?_ (by simp <;> omega) _ | with_reducible refine Below.alloc ?_ (by first | omega | (simp <;> omega)) _ | with_reducible refine Below.drew ?_ | with_reducible refine below_drewN ?_ _))
  have hC0 : Cur ((w.alloc (.cells #[.int .i64 0, .int .i64 0, .int .i64 0, .int .i64 0] 37)).alloc (.cells #[.slice A code.length c, .int .i64 0, .int .u64 0] 89)) (w.heap.size + 1) 0 := by have hq := Cur.new (c := c) ((h.below hbz).more hbz.size) hl hby; simp at hq; exact hq
  have HB0 : Hid (Below w.heap.size w ((w.alloc (.cells #[.int .i64 0, .int .i64 0, .int .i64 0, .int .i64 0] 37)).alloc (.cells #[.slice A code.length c, .int .i64 0, .int .u64 0] 89))) := by show Below _ _ _; (repeat (first | with_reducible exact Below.refl _ _ | with_reducible assumption | with_reducible refine Below.setCell ?_ (by simp <;> omega) _ | with_reducible refine Below.alloc ?_ (by first | omega | (simp <;> omega)) _ | with_reducible refine Below.drew ?_ | with_reducible refine below_drewN ?_ _))
  have HZ : Hid (Blk ((w.alloc (.cells #[.int .i64 0, .int .i64 0, .int .i64 0, .int .i64 0] 37)).alloc (.cells #[.slice A code.length c, .int .i64 0, .int .u64 0] 89)) w.heap.size 37 #[.int .i64 0, .int .i64 0, .int .i64 0, .int .i64 0]) := (Blk.new w _ _).alloc _
  clear hby hbz
  go_enter Tryd.func45, Tryd.ntmps45
  go_wp2_with fail
  refine (table11_any (w.heap.size + 1) 0 _ hC0 (by omega)).mono ?_
  rintro e w1 ⟨v, l, rfl, hll, hown, hC, hg⟩
  have HB1 := Lib.hid (below_of_cur HB0.out (by omega) hg)
  have HZ1 := Lib.hid (HZ.out.grown hg (by intro e9; injection e9; omega))
  have HO := Lib.hid (hown.mono (show w.heap.size + 1 ≤ _ by simp))
  have HC1 := Lib.hid hC
  have hs1 := HB1.out.size
  obtain ⟨A1, c1, rfl, hcc, _⟩ := Own.form encT_len hown
  clear hC hg hown hC0 HZ HB0
  go_wp2_with fail
  refine (swing_any (w.heap.size + 1) _ 5 _ HC1.out (by omega)).mono ?_
  rintro e w2 ⟨x, rfl, hC, hg⟩
  have HB2 := Lib.hid (below_of_cur HB1.out (by omega) hg)
  have HZ_2 := Lib.hid (HZ1.out.grown hg (by intro e9; injection e9; omega))
  clear HZ1
  have HO_2 := Lib.hid (HO.out.cur HC1.out hg (by decide))
  clear HO
  have HC2 := Lib.hid hC
  have hs2 := HB2.out.size
  clear hC hg HC1
  have hZ := HZ_2.out
  obtain ⟨z0, z1, z2, z3⟩ := box4 hZ
  have f0 := hZ.frozen 0
  have f1 := hZ.frozen 1
  have f2 := hZ.frozen 2
  have f3 := hZ.frozen 3
  have hbz : Below w.heap.size w2 (World.setCell (World.setCell (World.setCell (World.setCell w2 ⟨w.heap.size, 0, none⟩ (.int .i64 x.station)) ⟨w.heap.size, 1, none⟩ (.int .i64 x.far)) ⟨w.heap.size, 2, none⟩ (.int .i64 x.width)) ⟨w.heap.size, 3, none⟩ (.int .i64 x.term)) := by (repeat (first | with_reducible exact Below.refl _ _ | with_reducible assumption | with_reducible refine Below.setCell ?_ (by simp <;> omega) _ | with_reducible refine Below.alloc ?_ (by first | omega | (simp <;> omega)) _ | with_reducible refine Below.drew ?_ | with_reducible refine below_drewN ?_ _))
  have hbz1 : Below (w.heap.size + 1) w2 w2 := Below.refl _ _
  have hR : Blk (World.setCell (World.setCell (World.setCell (World.setCell w2 ⟨w.heap.size, 0, none⟩ (.int .i64 x.station)) ⟨w.heap.size, 1, none⟩ (.int .i64 x.far)) ⟨w.heap.size, 2, none⟩ (.int .i64 x.width)) ⟨w.heap.size, 3, none⟩ (.int .i64 x.term)) w.heap.size 37 #[.int .i64 x.station, .int .i64 x.far, .int .i64 x.width, .int .i64 x.term] := ((((hZ.set_ 0 _).set_ 1 _).set_ 2 _).set_ 3 _)
  have HRR := Lib.hid (box4 hR)
  have HBz := Lib.hid (HB2.out.trans hbz)
  have HOz := Lib.hid (show Own encT 2 (World.setCell (World.setCell (World.setCell (World.setCell w2 ⟨w.heap.size, 0, none⟩ (.int .i64 x.station)) ⟨w.heap.size, 1, none⟩ (.int .i64 x.far)) ⟨w.heap.size, 2, none⟩ (.int .i64 x.width)) ⟨w.heap.size, 3, none⟩ (.int .i64 x.term)) w.heap.size 76 (.slice A1 l.length c1) l from by
    have hne : ∀ q, (Value.slice A1 l.length c1).ownBlock = some q → q ≠ w.heap.size := fun q hq => by have := (HO_2.out.lt q hq).1; omega
    exact (Own.grown (w' := (World.setCell (World.setCell (World.setCell (World.setCell w2 ⟨w.heap.size, 0, none⟩ (.int .i64 x.station)) ⟨w.heap.size, 1, none⟩ (.int .i64 x.far)) ⟨w.heap.size, 2, none⟩ (.int .i64 x.width)) ⟨w.heap.size, 3, none⟩ (.int .i64 x.term))) (row := some w.heap.size) HO_2.out ⟨rfl, rfl, rfl, by simp [World.setCell], fun i hi hn => by
      have e1 := fun (W : World) (j : Nat) (u : Value) => Below.heap_setCell W ⟨w.heap.size, j, none⟩ u i (fun e => hn (by rw [e]))
      simp only [e1]⟩ (fun g9 hg9 hq => by injection hg9 with hg9; exact hne _ hq hg9.symm)).mono (show w.heap.size ≤ w.heap.size + 1 by omega))
  clear hZ hR hbz hbz1
  go_wp2
  obtain ⟨r0, r1, r2, r3⟩ := HRR.out
  exact bodyPost_ret (v := .tuple #[.slice A1 l.length c1, .agg #[.int .i64 x.station, .int .i64 x.far, .int .i64 x.width, .int .i64 x.term]]) (by simp [results, Tryd.results45, go_sem, r0, r1, r2, r3]) rfl ⟨A1, c1, l, x, rfl, hll, hcc, HOz.out, HBz.out⟩

end Go.Proofs.YtjnaigpogloboaaDoor
