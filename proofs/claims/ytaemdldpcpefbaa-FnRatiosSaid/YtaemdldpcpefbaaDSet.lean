/-
  Contracts of the functions that draw settings and shaken samples. (Printed by gen_B7.py.)
-/
import Derived.Test.YtaemdldpcpefbaaSampB
import Derived.Test.YtaemdldpcpefbaaOnPl
namespace Go.Proofs.Ytaemdldpcpefbaa
set_option linter.unusedVariables false
open Go.RowKit

set_option maxRecDepth 100000 in
set_option maxHeartbeats 4000000 in
theorem setting_any (g m : Nat) (w : World) (h : Cur w g m) (hm : m ≤ 800000000) :
    Calls Try.prog 66 #[.pointer (some ⟨g, 0, none⟩)] w fun e w' => ∃ x : Setting, e = .returned (.agg #[.int .i64 x.short, .int .i64 x.long, .int .i64 x.on, .int .i64 x.off]) ∧ Cur w' g (m + 20) ∧ w.grownBy w' (some g) := by
  have HZ := Lib.hid (Blk.new w 25 #[.int .i64 0, .int .i64 0, .int .i64 0, .int .i64 0])
  have hb0 : Below w.heap.size w (w.alloc (.cells #[.int .i64 0, .int .i64 0, .int .i64 0, .int .i64 0] 25)) := by (repeat (first | with_reducible exact Below.refl _ _ | with_reducible assumption | with_reducible refine Below.setCell ?_ (by simp <;> omega) _ | with_reducible refine Below.alloc ?_ (by first | omega | (simp <;> omega)) _ | with_reducible refine Below.drew ?_ | with_reducible refine below_drewN ?_ _))
  have HC0 := Lib.hid (h.after hb0)
  have HG0 := Lib.hid (only_of_below hb0 (some g))
  have hgl := h.lt
  clear h hb0
  go_enter Try.func66, Try.ntmps66
  go_wp2_with fail
  refine (among_lit g _ [1, 1, 2, 3] _ 4 _ _ (by rfl) (by rfl) (by simp) HC0.out (by omega) (by omega) (by omega)).mono ?_
  rintro e w1 ⟨sh, rfl, _, hC, hg⟩
  have HG1 := Lib.hid (only_trans HG0.out hg)
  have HZ_1 := Lib.hid (HZ.out.grown hg (by intro e9; injection e9; omega))
  clear HZ
  have HC1 := Lib.hid hC
  have hs1 := HG1.out.size
  clear hC hg HC0
  go_wp2_with fail
  refine (among_lit g _ [4, 5, 6, 10] _ 4 _ _ (by rfl) (by rfl) (by simp) HC1.out (by omega) (by omega) (by omega)).mono ?_
  rintro e w2 ⟨lo, rfl, _, hC, hg⟩
  have HG2 := Lib.hid (only_trans HG1.out hg)
  have HZ_2 := Lib.hid (HZ_1.out.grown hg (by intro e9; injection e9; omega))
  clear HZ_1
  have HC2 := Lib.hid hC
  have hs2 := HG2.out.size
  clear hC hg HC1
  go_wp2_with fail
  refine (among_lit g _ [10, 12, 15, 20, 30] _ 5 _ _ (by rfl) (by rfl) (by simp) HC2.out (by omega) (by omega) (by omega)).mono ?_
  rintro e w3 ⟨on, rfl, _, hC, hg⟩
  have HG3 := Lib.hid (only_trans HG2.out hg)
  have HZ_3 := Lib.hid (HZ_2.out.grown hg (by intro e9; injection e9; omega))
  clear HZ_2
  have HC3 := Lib.hid hC
  have hs3 := HG3.out.size
  clear hC hg HC2
  go_wp2_with fail
  refine (among_lit g _ [10, 10, 11, 12] _ 4 _ _ (by rfl) (by rfl) (by simp) HC3.out (by omega) (by omega) (by omega)).mono ?_
  rintro e w4 ⟨of, rfl, _, hC, hg⟩
  have HG4 := Lib.hid (only_trans HG3.out hg)
  have HZ_4 := Lib.hid (HZ_3.out.grown hg (by intro e9; injection e9; omega))
  clear HZ_3
  have HC4 := Lib.hid hC
  have hs4 := HG4.out.size
  clear hC hg HC3
  have hbp : Below w4.heap.size w4 (w4.alloc (.cells #[.int .i64 sh, .int .i64 lo, .int .i64 on, .int .i64 of] 25)) := by (repeat (first | with_reducible exact Below.refl _ _ | with_reducible assumption | with_reducible refine Below.setCell ?_ (by simp <;> omega) _ | with_reducible refine Below.alloc ?_ (by first | omega | (simp <;> omega)) _ | with_reducible refine Below.drew ?_ | with_reducible refine below_drewN ?_ _))
  have HP := Lib.hid (Blk.new w4 25 #[.int .i64 sh, .int .i64 lo, .int .i64 on, .int .i64 of])
  have HZ_4_b := Lib.hid (HZ_4.out.after hbp)
  have HC5 := Lib.hid (HC4.out.after hbp)
  have HG5 := Lib.hid (only_trans HG4.out (only_of_below hbp _))
  have hqz : w.heap.size < w4.heap.size := HZ_4.out.lt
  have hqg : g < w4.heap.size := HC4.out.lt
  clear hbp
  go_wp2_with fail
  refine (pick_any g _ 32 _ HC5.out (by omega) (by omega)).mono ?_
  rintro e w6 ⟨kk, rfl, ⟨hkk0, hx⟩, hC, hg⟩
  have HG6 := Lib.hid (only_trans HG5.out hg)
  have HZ_6 := Lib.hid (HZ_4_b.out.grown hg (by intro e9; injection e9; omega))
  clear HZ_4_b
  have HP_6 := Lib.hid (HP.out.grown hg (by intro e9; injection e9; omega))
  clear HP
  have HC6 := Lib.hid hC
  have hs6 := HG6.out.size
  clear hC hg HC5
  clear hx
  by_cases e0 : kk = 0
  · subst e0
    go_wp2_with fail
    refine (among_lit g _ [0, 5, 6] _ 3 _ _ (by rfl) (by rfl) (by simp) HC6.out (by omega) (by omega) (by omega)).mono ?_
    rintro e w7 ⟨nv, rfl, _, hC, hg⟩
    have HG7 := Lib.hid (only_trans HG6.out hg)
    have HZ_7 := Lib.hid (HZ_6.out.grown hg (by intro e9; injection e9; omega))
    clear HZ_6
    have HP_7 := Lib.hid (HP_6.out.grown hg (by intro e9; injection e9; omega))
    clear HP_6
    have HC7 := Lib.hid hC
    have hs7 := HG7.out.size
    clear hC hg HC6
    have hP9 := HP_7.out
    have d9 := hP9.cell 0
    have f9 := hP9.frozen 0
    simp only [List.getElem?_toArray, List.getElem?_cons_zero] at d9
    have hb9 : Below w.heap.size w7 (World.setCell w7 ⟨w4.heap.size, 0, none⟩ (.int .i64 nv)) := by (repeat (first | with_reducible exact Below.refl _ _ | with_reducible assumption | with_reducible refine Below.setCell ?_ (by simp <;> omega) _ | with_reducible refine Below.alloc ?_ (by first | omega | (simp <;> omega)) _ | with_reducible refine Below.drew ?_ | with_reducible refine below_drewN ?_ _))
    have HP9 := Lib.hid (hP9.set_ 0 (.int .i64 nv))
    have HZ9 := Lib.hid (HZ_7.out.far (p := ⟨w4.heap.size, 0, none⟩) (by show w.heap.size ≠ w4.heap.size; omega) (.int .i64 nv))
    have HC9 := Lib.hid (HC7.out.belowB hb9 hgl)
    have HG9 := Lib.hid (only_belowB HG7.out hb9 (Nat.le_refl _))
    clear hP9 hb9
    have hZ := HZ9.out
    obtain ⟨c0, c1, c2, c3⟩ := box4 HP_7.out
    obtain ⟨z0, z1, z2, z3⟩ := box4 HZ_7.out
    have f0 := HZ_7.out.frozen 0
    have f1 := HZ_7.out.frozen 1
    have f2 := HZ_7.out.frozen 2
    have f3 := HZ_7.out.frozen 3
    have hbz : Below w.heap.size (World.setCell w7 ⟨w4.heap.size, 0, none⟩ (.int .i64 nv)) (World.setCell (World.setCell (World.setCell (World.setCell (World.setCell w7 ⟨w4.heap.size, 0, none⟩ (.int .i64 nv)) ⟨w.heap.size, 0, none⟩ (.int .i64 nv)) ⟨w.heap.size, 1, none⟩ (.int .i64 lo)) ⟨w.heap.size, 2, none⟩ (.int .i64 on)) ⟨w.heap.size, 3, none⟩ (.int .i64 of)) := by (repeat (first | with_reducible exact Below.refl _ _ | with_reducible assumption | with_reducible refine Below.setCell ?_ (by simp <;> omega) _ | with_reducible refine Below.alloc ?_ (by first | omega | (simp <;> omega)) _ | with_reducible refine Below.drew ?_ | with_reducible refine below_drewN ?_ _))
    have HCz := Lib.hid (HC9.out.belowB hbz hgl)
    have HGz := Lib.hid (only_belowB HG9.out hbz (Nat.le_refl _))
    have hqn : ¬ w.heap.size = w4.heap.size := by omega
    have hqn2 : ¬ w4.heap.size = w.heap.size := by omega
    have hR : Blk (World.setCell (World.setCell (World.setCell (World.setCell (World.setCell w7 ⟨w4.heap.size, 0, none⟩ (.int .i64 nv)) ⟨w.heap.size, 0, none⟩ (.int .i64 nv)) ⟨w.heap.size, 1, none⟩ (.int .i64 lo)) ⟨w.heap.size, 2, none⟩ (.int .i64 on)) ⟨w.heap.size, 3, none⟩ (.int .i64 of)) w.heap.size 25 #[.int .i64 nv, .int .i64 lo, .int .i64 on, .int .i64 of] := ((((hZ.set_ 0 _).set_ 1 _).set_ 2 _).set_ 3 _)
    have HRR := Lib.hid (box4 hR)
    clear hbz hZ hR
    go_wp2
    obtain ⟨r0, r1, r2, r3⟩ := HRR.out
    exact bodyPost_ret (v := .agg #[.int .i64 nv, .int .i64 lo, .int .i64 on, .int .i64 of]) (by simp [results, Try.results66, go_sem, r0, r1, r2, r3]) rfl ⟨⟨nv, lo, on, of⟩, rfl, HCz.out.more (by omega), HGz.out⟩
  · have n0 : (kk == 0) = false := by simp [e0]
    by_cases e1 : kk = 1
    · subst e1
      go_wp2_with fail
      refine (among_lit g _ [1, 20, 21] _ 3 _ _ (by rfl) (by rfl) (by simp) HC6.out (by omega) (by omega) (by omega)).mono ?_
      rintro e w7 ⟨nv, rfl, _, hC, hg⟩
      have HG7 := Lib.hid (only_trans HG6.out hg)
      have HZ_7 := Lib.hid (HZ_6.out.grown hg (by intro e9; injection e9; omega))
      clear HZ_6
      have HP_7 := Lib.hid (HP_6.out.grown hg (by intro e9; injection e9; omega))
      clear HP_6
      have HC7 := Lib.hid hC
      have hs7 := HG7.out.size
      clear hC hg HC6
      have hP9 := HP_7.out
      have d9 := hP9.cell 1
      have f9 := hP9.frozen 1
      simp only [List.getElem?_toArray, List.getElem?_cons_zero, List.getElem?_cons_succ] at d9
      have hb9 : Below w.heap.size w7 (World.setCell w7 ⟨w4.heap.size, 1, none⟩ (.int .i64 nv)) := by (repeat (first | with_reducible exact Below.refl _ _ | with_reducible assumption | with_reducible refine Below.setCell ?_ (by simp <;> omega) _ | with_reducible refine Below.alloc ?_ (by first | omega | (simp <;> omega)) _ | with_reducible refine Below.drew ?_ | with_reducible refine below_drewN ?_ _))
      have HP9 := Lib.hid (hP9.set_ 1 (.int .i64 nv))
      have HZ9 := Lib.hid (HZ_7.out.far (p := ⟨w4.heap.size, 1, none⟩) (by show w.heap.size ≠ w4.heap.size; omega) (.int .i64 nv))
      have HC9 := Lib.hid (HC7.out.belowB hb9 hgl)
      have HG9 := Lib.hid (only_belowB HG7.out hb9 (Nat.le_refl _))
      clear hP9 hb9
      have hZ := HZ9.out
      obtain ⟨c0, c1, c2, c3⟩ := box4 HP_7.out
      obtain ⟨z0, z1, z2, z3⟩ := box4 HZ_7.out
      have f0 := HZ_7.out.frozen 0
      have f1 := HZ_7.out.frozen 1
      have f2 := HZ_7.out.frozen 2
      have f3 := HZ_7.out.frozen 3
      have hbz : Below w.heap.size (World.setCell w7 ⟨w4.heap.size, 1, none⟩ (.int .i64 nv)) (World.setCell (World.setCell (World.setCell (World.setCell (World.setCell w7 ⟨w4.heap.size, 1, none⟩ (.int .i64 nv)) ⟨w.heap.size, 0, none⟩ (.int .i64 sh)) ⟨w.heap.size, 1, none⟩ (.int .i64 nv)) ⟨w.heap.size, 2, none⟩ (.int .i64 on)) ⟨w.heap.size, 3, none⟩ (.int .i64 of)) := by (repeat (first | with_reducible exact Below.refl _ _ | with_reducible assumption | with_reducible refine Below.setCell ?_ (by simp <;> omega) _ | with_reducible refine Below.alloc ?_ (by first | omega | (simp <;> omega)) _ | with_reducible refine Below.drew ?_ | with_reducible refine below_drewN ?_ _))
      have HCz := Lib.hid (HC9.out.belowB hbz hgl)
      have HGz := Lib.hid (only_belowB HG9.out hbz (Nat.le_refl _))
      have hqn : ¬ w.heap.size = w4.heap.size := by omega
      have hqn2 : ¬ w4.heap.size = w.heap.size := by omega
      have hR : Blk (World.setCell (World.setCell (World.setCell (World.setCell (World.setCell w7 ⟨w4.heap.size, 1, none⟩ (.int .i64 nv)) ⟨w.heap.size, 0, none⟩ (.int .i64 sh)) ⟨w.heap.size, 1, none⟩ (.int .i64 nv)) ⟨w.heap.size, 2, none⟩ (.int .i64 on)) ⟨w.heap.size, 3, none⟩ (.int .i64 of)) w.heap.size 25 #[.int .i64 sh, .int .i64 nv, .int .i64 on, .int .i64 of] := ((((hZ.set_ 0 _).set_ 1 _).set_ 2 _).set_ 3 _)
      have HRR := Lib.hid (box4 hR)
      clear hbz hZ hR
      go_wp2
      obtain ⟨r0, r1, r2, r3⟩ := HRR.out
      exact bodyPost_ret (v := .agg #[.int .i64 sh, .int .i64 nv, .int .i64 on, .int .i64 of]) (by simp [results, Try.results66, go_sem, r0, r1, r2, r3]) rfl ⟨⟨sh, nv, on, of⟩, rfl, HCz.out.more (by omega), HGz.out⟩
    · have n1 : (kk == 1) = false := by simp [e1]
      by_cases e2 : kk = 2
      · subst e2
        go_wp2_with fail
        refine (among_lit g _ [9, 1000, 1001] _ 3 _ _ (by rfl) (by rfl) (by simp) HC6.out (by omega) (by omega) (by omega)).mono ?_
        rintro e w7 ⟨nv, rfl, _, hC, hg⟩
        have HG7 := Lib.hid (only_trans HG6.out hg)
        have HZ_7 := Lib.hid (HZ_6.out.grown hg (by intro e9; injection e9; omega))
        clear HZ_6
        have HP_7 := Lib.hid (HP_6.out.grown hg (by intro e9; injection e9; omega))
        clear HP_6
        have HC7 := Lib.hid hC
        have hs7 := HG7.out.size
        clear hC hg HC6
        have hP9 := HP_7.out
        have d9 := hP9.cell 2
        have f9 := hP9.frozen 2
        simp only [List.getElem?_toArray, List.getElem?_cons_zero, List.getElem?_cons_succ] at d9
        have hb9 : Below w.heap.size w7 (World.setCell w7 ⟨w4.heap.size, 2, none⟩ (.int .i64 nv)) := by (repeat (first | with_reducible exact Below.refl _ _ | with_reducible assumption | with_reducible refine Below.setCell ?_ (by simp <;> omega) _ | with_reducible refine Below.alloc ?_ (by first | omega | (simp <;> omega)) _ | with_reducible refine Below.drew ?_ | with_reducible refine below_drewN ?_ _))
        have HP9 := Lib.hid (hP9.set_ 2 (.int .i64 nv))
        have HZ9 := Lib.hid (HZ_7.out.far (p := ⟨w4.heap.size, 2, none⟩) (by show w.heap.size ≠ w4.heap.size; omega) (.int .i64 nv))
        have HC9 := Lib.hid (HC7.out.belowB hb9 hgl)
        have HG9 := Lib.hid (only_belowB HG7.out hb9 (Nat.le_refl _))
        clear hP9 hb9
        have hZ := HZ9.out
        obtain ⟨c0, c1, c2, c3⟩ := box4 HP_7.out
        obtain ⟨z0, z1, z2, z3⟩ := box4 HZ_7.out
        have f0 := HZ_7.out.frozen 0
        have f1 := HZ_7.out.frozen 1
        have f2 := HZ_7.out.frozen 2
        have f3 := HZ_7.out.frozen 3
        have hbz : Below w.heap.size (World.setCell w7 ⟨w4.heap.size, 2, none⟩ (.int .i64 nv)) (World.setCell (World.setCell (World.setCell (World.setCell (World.setCell w7 ⟨w4.heap.size, 2, none⟩ (.int .i64 nv)) ⟨w.heap.size, 0, none⟩ (.int .i64 sh)) ⟨w.heap.size, 1, none⟩ (.int .i64 lo)) ⟨w.heap.size, 2, none⟩ (.int .i64 nv)) ⟨w.heap.size, 3, none⟩ (.int .i64 of)) := by (repeat (first | with_reducible exact Below.refl _ _ | with_reducible assumption | with_reducible refine Below.setCell ?_ (by simp <;> omega) _ | with_reducible refine Below.alloc ?_ (by first | omega | (simp <;> omega)) _ | with_reducible refine Below.drew ?_ | with_reducible refine below_drewN ?_ _))
        have HCz := Lib.hid (HC9.out.belowB hbz hgl)
        have HGz := Lib.hid (only_belowB HG9.out hbz (Nat.le_refl _))
        have hqn : ¬ w.heap.size = w4.heap.size := by omega
        have hqn2 : ¬ w4.heap.size = w.heap.size := by omega
        have hR : Blk (World.setCell (World.setCell (World.setCell (World.setCell (World.setCell w7 ⟨w4.heap.size, 2, none⟩ (.int .i64 nv)) ⟨w.heap.size, 0, none⟩ (.int .i64 sh)) ⟨w.heap.size, 1, none⟩ (.int .i64 lo)) ⟨w.heap.size, 2, none⟩ (.int .i64 nv)) ⟨w.heap.size, 3, none⟩ (.int .i64 of)) w.heap.size 25 #[.int .i64 sh, .int .i64 lo, .int .i64 nv, .int .i64 of] := ((((hZ.set_ 0 _).set_ 1 _).set_ 2 _).set_ 3 _)
        have HRR := Lib.hid (box4 hR)
        clear hbz hZ hR
        go_wp2
        obtain ⟨r0, r1, r2, r3⟩ := HRR.out
        exact bodyPost_ret (v := .agg #[.int .i64 sh, .int .i64 lo, .int .i64 nv, .int .i64 of]) (by simp [results, Try.results66, go_sem, r0, r1, r2, r3]) rfl ⟨⟨sh, lo, nv, of⟩, rfl, HCz.out.more (by omega), HGz.out⟩
      · have n2 : (kk == 2) = false := by simp [e2]
        by_cases e3 : kk = 3
        · subst e3
          go_wp2_with fail
          refine (among_lit g _ [9, 40] _ 2 _ _ (by rfl) (by rfl) (by simp) HC6.out (by omega) (by omega) (by omega)).mono ?_
          rintro e w7 ⟨nv, rfl, _, hC, hg⟩
          have HG7 := Lib.hid (only_trans HG6.out hg)
          have HZ_7 := Lib.hid (HZ_6.out.grown hg (by intro e9; injection e9; omega))
          clear HZ_6
          have HP_7 := Lib.hid (HP_6.out.grown hg (by intro e9; injection e9; omega))
          clear HP_6
          have HC7 := Lib.hid hC
          have hs7 := HG7.out.size
          clear hC hg HC6
          have hP9 := HP_7.out
          have d9 := hP9.cell 3
          have f9 := hP9.frozen 3
          simp only [List.getElem?_toArray, List.getElem?_cons_zero, List.getElem?_cons_succ] at d9
          have hb9 : Below w.heap.size w7 (World.setCell w7 ⟨w4.heap.size, 3, none⟩ (.int .i64 nv)) := by (repeat (first | with_reducible exact Below.refl _ _ | with_reducible assumption | with_reducible refine Below.setCell ?_ (by simp <;> omega) _ | with_reducible refine Below.alloc ?_ (by first | omega | (simp <;> omega)) _ | with_reducible refine Below.drew ?_ | with_reducible refine below_drewN ?_ _))
          have HP9 := Lib.hid (hP9.set_ 3 (.int .i64 nv))
          have HZ9 := Lib.hid (HZ_7.out.far (p := ⟨w4.heap.size, 3, none⟩) (by show w.heap.size ≠ w4.heap.size; omega) (.int .i64 nv))
          have HC9 := Lib.hid (HC7.out.belowB hb9 hgl)
          have HG9 := Lib.hid (only_belowB HG7.out hb9 (Nat.le_refl _))
          clear hP9 hb9
          have hZ := HZ9.out
          obtain ⟨c0, c1, c2, c3⟩ := box4 HP_7.out
          obtain ⟨z0, z1, z2, z3⟩ := box4 HZ_7.out
          have f0 := HZ_7.out.frozen 0
          have f1 := HZ_7.out.frozen 1
          have f2 := HZ_7.out.frozen 2
          have f3 := HZ_7.out.frozen 3
          have hbz : Below w.heap.size (World.setCell w7 ⟨w4.heap.size, 3, none⟩ (.int .i64 nv)) (World.setCell (World.setCell (World.setCell (World.setCell (World.setCell w7 ⟨w4.heap.size, 3, none⟩ (.int .i64 nv)) ⟨w.heap.size, 0, none⟩ (.int .i64 sh)) ⟨w.heap.size, 1, none⟩ (.int .i64 lo)) ⟨w.heap.size, 2, none⟩ (.int .i64 on)) ⟨w.heap.size, 3, none⟩ (.int .i64 nv)) := by (repeat (first | with_reducible exact Below.refl _ _ | with_reducible assumption | with_reducible refine Below.setCell ?_ (by simp <;> omega) _ | with_reducible refine Below.alloc ?_ (by first | omega | (simp <;> omega)) _ | with_reducible refine Below.drew ?_ | with_reducible refine below_drewN ?_ _))
          have HCz := Lib.hid (HC9.out.belowB hbz hgl)
          have HGz := Lib.hid (only_belowB HG9.out hbz (Nat.le_refl _))
          have hqn : ¬ w.heap.size = w4.heap.size := by omega
          have hqn2 : ¬ w4.heap.size = w.heap.size := by omega
          have hR : Blk (World.setCell (World.setCell (World.setCell (World.setCell (World.setCell w7 ⟨w4.heap.size, 3, none⟩ (.int .i64 nv)) ⟨w.heap.size, 0, none⟩ (.int .i64 sh)) ⟨w.heap.size, 1, none⟩ (.int .i64 lo)) ⟨w.heap.size, 2, none⟩ (.int .i64 on)) ⟨w.heap.size, 3, none⟩ (.int .i64 nv)) w.heap.size 25 #[.int .i64 sh, .int .i64 lo, .int .i64 on, .int .i64 nv] := ((((hZ.set_ 0 _).set_ 1 _).set_ 2 _).set_ 3 _)
          have HRR := Lib.hid (box4 hR)
          clear hbz hZ hR
          go_wp2
          obtain ⟨r0, r1, r2, r3⟩ := HRR.out
          exact bodyPost_ret (v := .agg #[.int .i64 sh, .int .i64 lo, .int .i64 on, .int .i64 nv]) (by simp [results, Try.results66, go_sem, r0, r1, r2, r3]) rfl ⟨⟨sh, lo, on, nv⟩, rfl, HCz.out.more (by omega), HGz.out⟩
        · have n3 : (kk == 3) = false := by simp [e3]
          have hP := HP_6.out
          have hZ := HZ_6.out
          obtain ⟨c0, c1, c2, c3⟩ := box4 hP
          obtain ⟨z0, z1, z2, z3⟩ := box4 hZ
          have f0 := hZ.frozen 0
          have f1 := hZ.frozen 1
          have f2 := hZ.frozen 2
          have f3 := hZ.frozen 3
          have hbz : Below w.heap.size w6 (World.setCell (World.setCell (World.setCell (World.setCell w6 ⟨w.heap.size, 0, none⟩ (.int .i64 sh)) ⟨w.heap.size, 1, none⟩ (.int .i64 lo)) ⟨w.heap.size, 2, none⟩ (.int .i64 on)) ⟨w.heap.size, 3, none⟩ (.int .i64 of)) := by (repeat (first | with_reducible exact Below.refl _ _ | with_reducible assumption | with_reducible refine Below.setCell ?_ (by simp <;> omega) _ | with_reducible refine Below.alloc ?_ (by first | omega | (simp <;> omega)) _ | with_reducible refine Below.drew ?_ | with_reducible refine below_drewN ?_ _))
          have HCz := Lib.hid (HC6.out.belowB hbz hgl)
          have HGz := Lib.hid (only_belowB HG6.out hbz (Nat.le_refl _))
          have hR : Blk (World.setCell (World.setCell (World.setCell (World.setCell w6 ⟨w.heap.size, 0, none⟩ (.int .i64 sh)) ⟨w.heap.size, 1, none⟩ (.int .i64 lo)) ⟨w.heap.size, 2, none⟩ (.int .i64 on)) ⟨w.heap.size, 3, none⟩ (.int .i64 of)) w.heap.size 25 #[.int .i64 sh, .int .i64 lo, .int .i64 on, .int .i64 of] := ((((hZ.set_ 0 _).set_ 1 _).set_ 2 _).set_ 3 _)
          have HRR := Lib.hid (box4 hR)
          clear hbz hP hZ hR
          go_wp2
          obtain ⟨r0, r1, r2, r3⟩ := HRR.out
          exact bodyPost_ret (v := .agg #[.int .i64 sh, .int .i64 lo, .int .i64 on, .int .i64 of]) (by simp [results, Try.results66, go_sem, r0, r1, r2, r3]) rfl ⟨⟨sh, lo, on, of⟩, rfl, HCz.out.more (by omega), HGz.out⟩

theorem ISt.new {w : World} {g M : Nat} (h : Cur w g M) : ISt w g (w.alloc (.cells #[] 3)) (.slice (some ⟨w.heap.size, 0, none⟩) 0 0) [] M :=
  ⟨Own.empty _ _ _ (Nat.le_refl _), h.after (by (repeat (first | with_reducible exact Below.refl _ _ | with_reducible assumption | with_reducible refine Below.setCell ?_ (by simp <;> omega) _ | with_reducible refine Below.alloc ?_ (by first | omega | (simp <;> omega)) _ | with_reducible refine Below.drew ?_ | with_reducible refine below_drewN ?_ _))), only_of_below (by (repeat (first | with_reducible exact Below.refl _ _ | with_reducible assumption | with_reducible refine Below.setCell ?_ (by simp <;> omega) _ | with_reducible refine Below.alloc ?_ (by first | omega | (simp <;> omega)) _ | with_reducible refine Below.drew ?_ | with_reducible refine below_drewN ?_ _))) _⟩
set_option maxRecDepth 100000 in
set_option maxHeartbeats 8000000 in
theorem shaken_any (g m : Nat) (w : World) (h : Cur w g m) (hm : m ≤ 600000000) :
    Calls Try.prog 65 #[.pointer (some ⟨g, 0, none⟩)] w fun e w' => ∃ v l, e = .returned v ∧ l.length ≤ 60 ∧ Own encI 1 w' w.heap.size 3 v l ∧ Cur w' g (m + 2000) ∧ w.grownBy w' (some g) := by
  obtain ⟨i0, hi, hz0, hz1, hz2⟩ := info_parts infoI
  have hgl := h.lt
  have HD0 := Lib.hid (ISt.new h)
  clear h
  go_enter Try.func65, Try.ntmps65
  go_wp2_with fail
  refine (pick_any g m 14 _ HD0.out.2.1 (by omega) (by omega)).mono ?_
  rintro e w1 ⟨n0, rfl, ⟨hn0, hx⟩, hC, hg⟩
  have HD1 := Lib.hid (HD0.out.step hC hg)
  have hn1 : n0 ≤ 13 := by omega
  clear hC hg hx
  obtain ⟨nn, rfl⟩ := Int.eq_ofNat_of_zero_le hn0
  go_wp2
  go_loopw [3, 4] (fun v i wr => ∃ (q : Nat) (A : Option Addr) (cp : Nat) (l : List Int) (M : Nat), i = .int .i64 q ∧ v = .slice A l.length cp ∧ l.length + q ≤ 20 ∧ q ≤ 20 ∧ M + q * 10 ≤ m + 300 ∧ Hid (ISt w g wr (.slice A l.length cp) l M)) (fun _ i _ => (intOf i).toNat)
  case atStart => exact ⟨nn + 6, _, 0, [], m + 2, by go_num, rfl, by simp; omega, by omega, by omega, HD1.out⟩
  case round =>
    obtain ⟨q, A, cp, l, M, rfl, rfl, hlq, hq5, hMq, HD⟩ := hrel
    have hsw := HD.out.size
    by_cases hq : q = 0
    · subst hq
      go_wp2_with fail
      refine (one_any g M 8 _ HD.out.2.1 (by omega) (by omega)).mono ?_
      rintro e w2 ⟨bo, rfl, hC, hg⟩
      have HD2 := Lib.hid (HD.out.step hC hg)
      have hs2 := HD2.out.size
      clear hC hg
      cases bo with
      | false =>
        go_wp2
        go_ret
        exact ⟨_, l, rfl, (by omega), HD2.out.1, HD2.out.2.1.more (by omega), HD2.out.2.2⟩
      | true =>
        go_wp2_with fail
        refine (samples_any g _ _ HD2.out.2.1 (by omega)).mono ?_
        rintro e w3 ⟨v3, l3, rfl, hl3, _, hown, hC, hg⟩
        have HO := Lib.hid (hown.mono hs2)
        have HC3 := Lib.hid hC
        have HG3 := Lib.hid (only_trans HD2.out.2.2 hg)
        clear hown hC hg
        go_wp2
        go_ret
        exact ⟨_, l3, rfl, hl3, HO.out, HC3.out.more (by omega), HG3.out⟩
    · obtain ⟨q', rfl⟩ : ∃ q', q = q' + 1 := ⟨q - 1, by omega⟩
      go_wp2_with fail
      refine (among_lit g M [0, 1, -1, 2, -2] _ 5 _ _ (by rfl) (by rfl) (by simp) HD.out.2.1 (by omega) (by omega) (by omega)).mono ?_
      rintro e w3 ⟨y, rfl, _, hC, hg⟩
      have HD3 := Lib.hid (HD.out.step hC hg)
      clear hC hg
      go_upto_region 6 with (fail)
      go_cut [23] (fun s W => ∃ b : Bool, s = .bool b ∧ ISt w g W (.slice A l.length cp) l (M + 4))
      case first =>
        by_cases hl0 : (l.length : Int) > 6
        · go_wp2_with fail
          refine (one_any g (M + 2) 4 _ HD3.out.2.1 (by omega) (by omega)).mono ?_
          rintro e w4 ⟨bo, rfl, hC, hg⟩
          have HD4 := Lib.hid (HD3.out.step hC hg)
          clear hC hg
          go_wp2
          all_goals go_meet
          all_goals exact ⟨bo, rfl, HD4.out⟩
        · go_wp2
          all_goals go_meet
          all_goals exact ⟨false, rfl, HD3.out.more (by omega)⟩
      case rest =>
        obtain ⟨bo, rfl, hD5⟩ := hcut
        obtain ⟨wx, rfl⟩ : ∃ wx : World, wx = wc := ⟨_, rfl⟩
        have HD5 := Lib.hid hD5
        clear hD5 HD3
        go_upto_if 23 with (fail)
        go_cut [5] (fun s W => ∃ y : Int, s = .int .i64 y ∧ ISt w g W (.slice A l.length cp) l (M + 6))
        case first =>
          cases bo with
          | false =>
            go_wp2
            all_goals go_meet
            all_goals exact ⟨y, rfl, HD5.out.more (by omega)⟩
          | true =>
            go_wp2_with fail
            refine (among_lit g _ [50, -40, 90, -3000] _ 4 _ _ (by rfl) (by rfl) (by simp) HD5.out.2.1 (by omega) (by omega) (by omega)).mono ?_
            rintro e w6 ⟨z, rfl, _, hC, hg⟩
            have HD6 := Lib.hid (HD5.out.step hC hg)
            clear hC hg
            go_wp2
            all_goals go_meet
            all_goals exact ⟨z, rfl, HD6.out⟩
        case rest =>
          obtain ⟨z, rfl, hD7⟩ := hcut
          obtain ⟨w7, rfl⟩ : ∃ w7 : World, w7 = wc := ⟨_, rfl⟩
          have HD7 := Lib.hid hD7
          clear hD7 HD5
          have hs7 := HD7.out.size
          go_wp2_with (at_builtin; refine wpList_app1 rfl _ _ 28 rfl w.heap.size 3 i0 _ 1 8 Try.underlying28 hi hz0 hz1 hz2 rfl (by omega) (by omega) encI encI_len encI_one (.slice A l.length cp) l z w7 _ rfl _ rfl HD7.out.1 rfl (by omega) (by omega) ?_; intro v9 w9 hown9 hb9 _)
          have HD9 := Lib.hid (HD7.out.app hown9 hb9 hgl)
          obtain ⟨A9, c9, rfl, _, _⟩ := Own.form encI_len hown9
          clear hown9 hb9
          go_wp2
          go_roundw
          case rel => exact ⟨q', A9, c9, l ++ [z], M + 6, by go_num, by simp, by simp; omega, by omega, by omega, HD9.out⟩
          case measure => simp [intOf]

end Go.Proofs.Ytaemdldpcpefbaa
