/-
  Contract of the function that draws a swing. (Printed by gen_E10.py.)
-/
import Derived.Test.YtjnaigpogloboaaDoorDraw
import Derived.Test.YtjnaigpogloboaaDoorAmB
import Derived.Test.YtjnaigpogloboaaDoorSwing
import Derived.Deep.RegionHeld3
import Derived.BigQuiet
import Derived.Deep.CutRange
import Derived.Deep.DeepCutAuto
import Derived.Deep.CutBlock
namespace Go.Proofs.YtjnaigpogloboaaDoor
set_option linter.unusedVariables false
open Go.RowKit

set_option maxRecDepth 100000 in
set_option maxHeartbeats 4000000 in
theorem swing_any (g m : Nat) (st : Int) (w : World) (h : Cur w g m) (hm : m ≤ 800000000) :
    Calls Tryd.prog 85 #[.pointer (some ⟨g, 0, none⟩), .int .i64 st] w fun e w' => ∃ x : Swing, e = .returned (.agg #[.int .i64 x.station, .int .i64 x.far, .int .i64 x.width, .int .i64 x.term]) ∧ Cur w' g (m + 20) ∧ w.grownBy w' (some g) := by
  have HZ := Lib.hid (Blk.new w 37 #[.int .i64 0, .int .i64 0, .int .i64 0, .int .i64 0])
  have hb0 : Below w.heap.size w (w.alloc (.cells #[.int .i64 0, .int .i64 0, .int .i64 0, .int .i64 0] 37)) := by (repeat (first | with_reducible exact Below.refl _ _ | with_reducible assumption | with_reducible refine Below.setCell ?_ (by simp <;> omega) _ | with_reducible refine Below.alloc ?_ (by first | omega | (simp <;> omega)) _ | with_reducible refine Below.drew ?_ | with_reducible refine below_drewN ?_ _))
  have HC0 := Lib.hid (h.after hb0)
  have HG0 := Lib.hid (only_of_below hb0 (some g))
  have hgl := h.lt
  clear h hb0
  go_enter Tryd.func85, Tryd.ntmps85
  go_wp2_with fail
  refine (among_lit g _ [0, 5, 12, 60, 200, 1500] _ 6 _ _ (by rfl) (by rfl) (by simp) HC0.out (by omega) (by omega) (by omega)).mono ?_
  rintro e w1 ⟨fr, rfl, _, hC, hg⟩
  have HG1 := Lib.hid (only_trans HG0.out hg)
  have HZ_1 := Lib.hid (HZ.out.grown hg (by intro e9; injection e9; omega))
  clear HZ
  have HC1 := Lib.hid hC
  have hs1 := HG1.out.size
  clear hC hg HC0
  go_wp2_with fail
  refine (among_lit g _ [1, 9, 10, 99, 2500, 1000000] _ 6 _ _ (by rfl) (by rfl) (by simp) HC1.out (by omega) (by omega) (by omega)).mono ?_
  rintro e w2 ⟨wi, rfl, _, hC, hg⟩
  have HG2 := Lib.hid (only_trans HG1.out hg)
  have HZ_2 := Lib.hid (HZ_1.out.grown hg (by intro e9; injection e9; omega))
  clear HZ_1
  have HC2 := Lib.hid hC
  have hs2 := HG2.out.size
  clear hC hg HC1
  go_wp2_with fail
  refine (among_lit g _ [-50, 0, 0, 12, 50] _ 5 _ _ (by rfl) (by rfl) (by simp) HC2.out (by omega) (by omega) (by omega)).mono ?_
  rintro e w3 ⟨tm, rfl, _, hC, hg⟩
  have HG3 := Lib.hid (only_trans HG2.out hg)
  have HZ_3 := Lib.hid (HZ_2.out.grown hg (by intro e9; injection e9; omega))
  clear HZ_2
  have HC3 := Lib.hid hC
  have hs3 := HG3.out.size
  clear hC hg HC2
  have hbp : Below w3.heap.size w3 (w3.alloc (.cells #[.int .i64 st, .int .i64 fr, .int .i64 wi, .int .i64 tm] 37)) := by (repeat (first | with_reducible exact Below.refl _ _ | with_reducible assumption | with_reducible refine Below.setCell ?_ (by simp <;> omega) _ | with_reducible refine Below.alloc ?_ (by first | omega | (simp <;> omega)) _ | with_reducible refine Below.drew ?_ | with_reducible refine below_drewN ?_ _))
  have HP := Lib.hid (Blk.new w3 37 #[.int .i64 st, .int .i64 fr, .int .i64 wi, .int .i64 tm])
  have HZ_3_b := Lib.hid (HZ_3.out.after hbp)
  have HC4 := Lib.hid (HC3.out.after hbp)
  have HG4 := Lib.hid (only_trans HG3.out (only_of_below hbp _))
  have hqz : w.heap.size < w3.heap.size := HZ_3.out.lt
  have hqg : g < w3.heap.size := HC3.out.lt
  clear hbp
  go_wp2_with fail
  refine (pick_any g _ 80 _ HC4.out (by omega) (by omega)).mono ?_
  rintro e w5 ⟨kk, rfl, ⟨hkk0, hx⟩, hC, hg⟩
  have HG5 := Lib.hid (only_trans HG4.out hg)
  have HZ_5 := Lib.hid (HZ_3_b.out.grown hg (by intro e9; injection e9; omega))
  clear HZ_3_b
  have HP_5 := Lib.hid (HP.out.grown hg (by intro e9; injection e9; omega))
  clear HP
  have HC5 := Lib.hid hC
  have hs5 := HG5.out.size
  clear hC hg HC4
  clear hx
  by_cases e0 : kk = 0
  · subst e0
    go_wp2_with fail
    refine (among_lit g _ [0, 99, 100] _ 3 _ _ (by rfl) (by rfl) (by simp) HC5.out (by omega) (by omega) (by omega)).mono ?_
    rintro e w6 ⟨nv, rfl, _, hC, hg⟩
    have HG6 := Lib.hid (only_trans HG5.out hg)
    have HZ_6 := Lib.hid (HZ_5.out.grown hg (by intro e9; injection e9; omega))
    clear HZ_5
    have HP_6 := Lib.hid (HP_5.out.grown hg (by intro e9; injection e9; omega))
    clear HP_5
    have HC6 := Lib.hid hC
    have hs6 := HG6.out.size
    clear hC hg HC5
    have hP9 := HP_6.out
    have d9 := hP9.cell 0
    have f9 := hP9.frozen 0
    simp only [List.getElem?_toArray, List.getElem?_cons_zero] at d9
    have hb9 : Below w.heap.size w6 (World.setCell w6 ⟨w3.heap.size, 0, none⟩ (.int .i64 nv)) := by (repeat (first | with_reducible exact Below.refl _ _ | with_reducible assumption | with_reducible refine Below.setCell ?_ (by simp <;> omega) _ | with_reducible refine Below.alloc ?_ (by first | omega | (simp <;> omega)) _ | with_reducible refine Below.drew ?_ | with_reducible refine below_drewN ?_ _))
    have HP9 := Lib.hid (hP9.set_ 0 (.int .i64 nv))
    have HZ9 := Lib.hid (HZ_6.out.far (p := ⟨w3.heap.size, 0, none⟩) (by show w.heap.size ≠ w3.heap.size; omega) (.int .i64 nv))
    have HC9 := Lib.hid (HC6.out.belowB hb9 hgl)
    have HG9 := Lib.hid (only_belowB HG6.out hb9 (Nat.le_refl _))
    clear hP9 hb9
    have hZ := HZ9.out
    obtain ⟨c0, c1, c2, c3⟩ := box4 HP_6.out
    obtain ⟨z0, z1, z2, z3⟩ := box4 HZ_6.out
    have f0 := HZ_6.out.frozen 0
    have f1 := HZ_6.out.frozen 1
    have f2 := HZ_6.out.frozen 2
    have f3 := HZ_6.out.frozen 3
    have hbz : Below w.heap.size (World.setCell w6 ⟨w3.heap.size, 0, none⟩ (.int .i64 nv)) (World.setCell (World.setCell (World.setCell (World.setCell (World.setCell w6 ⟨w3.heap.size, 0, none⟩ (.int .i64 nv)) ⟨w.heap.size, 0, none⟩ (.int .i64 nv)) ⟨w.heap.size, 1, none⟩ (.int .i64 fr)) ⟨w.heap.size, 2, none⟩ (.int .i64 wi)) ⟨w.heap.size, 3, none⟩ (.int .i64 tm)) := by (repeat (first | with_reducible exact Below.refl _ _ | with_reducible assumption | with_reducible refine Below.setCell ?_ (by simp <;> omega) _ | with_reducible refine Below.alloc ?_ (by first | omega | (simp <;> omega)) _ | with_reducible refine Below.drew ?_ | with_reducible refine below_drewN ?_ _))
    have HCz := Lib.hid (HC9.out.belowB hbz hgl)
    have HGz := Lib.hid (only_belowB HG9.out hbz (Nat.le_refl _))
    have hqn : ¬ w.heap.size = w3.heap.size := by omega
    have hqn2 : ¬ w3.heap.size = w.heap.size := by omega
    have hR : Blk (World.setCell (World.setCell (World.setCell (World.setCell (World.setCell w6 ⟨w3.heap.size, 0, none⟩ (.int .i64 nv)) ⟨w.heap.size, 0, none⟩ (.int .i64 nv)) ⟨w.heap.size, 1, none⟩ (.int .i64 fr)) ⟨w.heap.size, 2, none⟩ (.int .i64 wi)) ⟨w.heap.size, 3, none⟩ (.int .i64 tm)) w.heap.size 37 #[.int .i64 nv, .int .i64 fr, .int .i64 wi, .int .i64 tm] := ((((hZ.set_ 0 _).set_ 1 _).set_ 2 _).set_ 3 _)
    have HRR := Lib.hid (box4 hR)
    clear hbz hZ hR
    go_wp2
    obtain ⟨r0, r1, r2, r3⟩ := HRR.out
    exact bodyPost_ret (v := .agg #[.int .i64 nv, .int .i64 fr, .int .i64 wi, .int .i64 tm]) (by simp [results, Tryd.results85, go_sem, r0, r1, r2, r3]) rfl ⟨⟨nv, fr, wi, tm⟩, rfl, HCz.out.more (by omega), HGz.out⟩
  · have n0 : (kk == 0) = false := by simp [e0]
    by_cases e1 : kk = 1
    · subst e1
      go_wp2_with fail
      refine (among_lit g _ [-1, 1501] _ 2 _ _ (by rfl) (by rfl) (by simp) HC5.out (by omega) (by omega) (by omega)).mono ?_
      rintro e w6 ⟨nv, rfl, _, hC, hg⟩
      have HG6 := Lib.hid (only_trans HG5.out hg)
      have HZ_6 := Lib.hid (HZ_5.out.grown hg (by intro e9; injection e9; omega))
      clear HZ_5
      have HP_6 := Lib.hid (HP_5.out.grown hg (by intro e9; injection e9; omega))
      clear HP_5
      have HC6 := Lib.hid hC
      have hs6 := HG6.out.size
      clear hC hg HC5
      have hP9 := HP_6.out
      have d9 := hP9.cell 1
      have f9 := hP9.frozen 1
      simp only [List.getElem?_toArray, List.getElem?_cons_zero, List.getElem?_cons_succ] at d9
      have hb9 : Below w.heap.size w6 (World.setCell w6 ⟨w3.heap.size, 1, none⟩ (.int .i64 nv)) := by (repeat (first | with_reducible exact Below.refl _ _ | with_reducible assumption | with_reducible refine Below.setCell ?_ (by simp <;> omega) _ | with_reducible refine Below.alloc ?_ (by first | omega | (simp <;> omega)) _ | with_reducible refine Below.drew ?_ | with_reducible refine below_drewN ?_ _))
      have HP9 := Lib.hid (hP9.set_ 1 (.int .i64 nv))
      have HZ9 := Lib.hid (HZ_6.out.far (p := ⟨w3.heap.size, 1, none⟩) (by show w.heap.size ≠ w3.heap.size; omega) (.int .i64 nv))
      have HC9 := Lib.hid (HC6.out.belowB hb9 hgl)
      have HG9 := Lib.hid (only_belowB HG6.out hb9 (Nat.le_refl _))
      clear hP9 hb9
      have hZ := HZ9.out
      obtain ⟨c0, c1, c2, c3⟩ := box4 HP_6.out
      obtain ⟨z0, z1, z2, z3⟩ := box4 HZ_6.out
      have f0 := HZ_6.out.frozen 0
      have f1 := HZ_6.out.frozen 1
      have f2 := HZ_6.out.frozen 2
      have f3 := HZ_6.out.frozen 3
      have hbz : Below w.heap.size (World.setCell w6 ⟨w3.heap.size, 1, none⟩ (.int .i64 nv)) (World.setCell (World.setCell (World.setCell (World.setCell (World.setCell w6 ⟨w3.heap.size, 1, none⟩ (.int .i64 nv)) ⟨w.heap.size, 0, none⟩ (.int .i64 st)) ⟨w.heap.size, 1, none⟩ (.int .i64 nv)) ⟨w.heap.size, 2, none⟩ (.int .i64 wi)) ⟨w.heap.size, 3, none⟩ (.int .i64 tm)) := by (repeat (first | with_reducible exact Below.refl _ _ | with_reducible assumption | with_reducible refine Below.setCell ?_ (by simp <;> omega) _ | with_reducible refine Below.alloc ?_ (by first | omega | (simp <;> omega)) _ | with_reducible refine Below.drew ?_ | with_reducible refine below_drewN ?_ _))
      have HCz := Lib.hid (HC9.out.belowB hbz hgl)
      have HGz := Lib.hid (only_belowB HG9.out hbz (Nat.le_refl _))
      have hqn : ¬ w.heap.size = w3.heap.size := by omega
      have hqn2 : ¬ w3.heap.size = w.heap.size := by omega
      have hR : Blk (World.setCell (World.setCell (World.setCell (World.setCell (World.setCell w6 ⟨w3.heap.size, 1, none⟩ (.int .i64 nv)) ⟨w.heap.size, 0, none⟩ (.int .i64 st)) ⟨w.heap.size, 1, none⟩ (.int .i64 nv)) ⟨w.heap.size, 2, none⟩ (.int .i64 wi)) ⟨w.heap.size, 3, none⟩ (.int .i64 tm)) w.heap.size 37 #[.int .i64 st, .int .i64 nv, .int .i64 wi, .int .i64 tm] := ((((hZ.set_ 0 _).set_ 1 _).set_ 2 _).set_ 3 _)
      have HRR := Lib.hid (box4 hR)
      clear hbz hZ hR
      go_wp2
      obtain ⟨r0, r1, r2, r3⟩ := HRR.out
      exact bodyPost_ret (v := .agg #[.int .i64 st, .int .i64 nv, .int .i64 wi, .int .i64 tm]) (by simp [results, Tryd.results85, go_sem, r0, r1, r2, r3]) rfl ⟨⟨st, nv, wi, tm⟩, rfl, HCz.out.more (by omega), HGz.out⟩
    · have n1 : (kk == 1) = false := by simp [e1]
      by_cases e2 : kk = 2
      · subst e2
        go_wp2_with fail
        refine (among_lit g _ [0, 1000001] _ 2 _ _ (by rfl) (by rfl) (by simp) HC5.out (by omega) (by omega) (by omega)).mono ?_
        rintro e w6 ⟨nv, rfl, _, hC, hg⟩
        have HG6 := Lib.hid (only_trans HG5.out hg)
        have HZ_6 := Lib.hid (HZ_5.out.grown hg (by intro e9; injection e9; omega))
        clear HZ_5
        have HP_6 := Lib.hid (HP_5.out.grown hg (by intro e9; injection e9; omega))
        clear HP_5
        have HC6 := Lib.hid hC
        have hs6 := HG6.out.size
        clear hC hg HC5
        have hP9 := HP_6.out
        have d9 := hP9.cell 2
        have f9 := hP9.frozen 2
        simp only [List.getElem?_toArray, List.getElem?_cons_zero, List.getElem?_cons_succ] at d9
        have hb9 : Below w.heap.size w6 (World.setCell w6 ⟨w3.heap.size, 2, none⟩ (.int .i64 nv)) := by (repeat (first | with_reducible exact Below.refl _ _ | with_reducible assumption | with_reducible refine Below.setCell ?_ (by simp <;> omega) _ | with_reducible refine Below.alloc ?_ (by first | omega | (simp <;> omega)) _ | with_reducible refine Below.drew ?_ | with_reducible refine below_drewN ?_ _))
        have HP9 := Lib.hid (hP9.set_ 2 (.int .i64 nv))
        have HZ9 := Lib.hid (HZ_6.out.far (p := ⟨w3.heap.size, 2, none⟩) (by show w.heap.size ≠ w3.heap.size; omega) (.int .i64 nv))
        have HC9 := Lib.hid (HC6.out.belowB hb9 hgl)
        have HG9 := Lib.hid (only_belowB HG6.out hb9 (Nat.le_refl _))
        clear hP9 hb9
        have hZ := HZ9.out
        obtain ⟨c0, c1, c2, c3⟩ := box4 HP_6.out
        obtain ⟨z0, z1, z2, z3⟩ := box4 HZ_6.out
        have f0 := HZ_6.out.frozen 0
        have f1 := HZ_6.out.frozen 1
        have f2 := HZ_6.out.frozen 2
        have f3 := HZ_6.out.frozen 3
        have hbz : Below w.heap.size (World.setCell w6 ⟨w3.heap.size, 2, none⟩ (.int .i64 nv)) (World.setCell (World.setCell (World.setCell (World.setCell (World.setCell w6 ⟨w3.heap.size, 2, none⟩ (.int .i64 nv)) ⟨w.heap.size, 0, none⟩ (.int .i64 st)) ⟨w.heap.size, 1, none⟩ (.int .i64 fr)) ⟨w.heap.size, 2, none⟩ (.int .i64 nv)) ⟨w.heap.size, 3, none⟩ (.int .i64 tm)) := by (repeat (first | with_reducible exact Below.refl _ _ | with_reducible assumption | with_reducible refine Below.setCell ?_ (by simp <;> omega) _ | with_reducible refine Below.alloc ?_ (by first | omega | (simp <;> omega)) _ | with_reducible refine Below.drew ?_ | with_reducible refine below_drewN ?_ _))
        have HCz := Lib.hid (HC9.out.belowB hbz hgl)
        have HGz := Lib.hid (only_belowB HG9.out hbz (Nat.le_refl _))
        have hqn : ¬ w.heap.size = w3.heap.size := by omega
        have hqn2 : ¬ w3.heap.size = w.heap.size := by omega
        have hR : Blk (World.setCell (World.setCell (World.setCell (World.setCell (World.setCell w6 ⟨w3.heap.size, 2, none⟩ (.int .i64 nv)) ⟨w.heap.size, 0, none⟩ (.int .i64 st)) ⟨w.heap.size, 1, none⟩ (.int .i64 fr)) ⟨w.heap.size, 2, none⟩ (.int .i64 nv)) ⟨w.heap.size, 3, none⟩ (.int .i64 tm)) w.heap.size 37 #[.int .i64 st, .int .i64 fr, .int .i64 nv, .int .i64 tm] := ((((hZ.set_ 0 _).set_ 1 _).set_ 2 _).set_ 3 _)
        have HRR := Lib.hid (box4 hR)
        clear hbz hZ hR
        go_wp2
        obtain ⟨r0, r1, r2, r3⟩ := HRR.out
        exact bodyPost_ret (v := .agg #[.int .i64 st, .int .i64 fr, .int .i64 nv, .int .i64 tm]) (by simp [results, Tryd.results85, go_sem, r0, r1, r2, r3]) rfl ⟨⟨st, fr, nv, tm⟩, rfl, HCz.out.more (by omega), HGz.out⟩
      · have n2 : (kk == 2) = false := by simp [e2]
        by_cases e3 : kk = 3
        · subst e3
          go_wp2_with fail
          refine (among_lit g _ [-51, 51] _ 2 _ _ (by rfl) (by rfl) (by simp) HC5.out (by omega) (by omega) (by omega)).mono ?_
          rintro e w6 ⟨nv, rfl, _, hC, hg⟩
          have HG6 := Lib.hid (only_trans HG5.out hg)
          have HZ_6 := Lib.hid (HZ_5.out.grown hg (by intro e9; injection e9; omega))
          clear HZ_5
          have HP_6 := Lib.hid (HP_5.out.grown hg (by intro e9; injection e9; omega))
          clear HP_5
          have HC6 := Lib.hid hC
          have hs6 := HG6.out.size
          clear hC hg HC5
          have hP9 := HP_6.out
          have d9 := hP9.cell 3
          have f9 := hP9.frozen 3
          simp only [List.getElem?_toArray, List.getElem?_cons_zero, List.getElem?_cons_succ] at d9
          have hb9 : Below w.heap.size w6 (World.setCell w6 ⟨w3.heap.size, 3, none⟩ (.int .i64 nv)) := by (repeat (first | with_reducible exact Below.refl _ _ | with_reducible assumption | with_reducible refine Below.setCell ?_ (by simp <;> omega) _ | with_reducible refine Below.alloc ?_ (by first | omega | (simp <;> omega)) _ | with_reducible refine Below.drew ?_ | with_reducible refine below_drewN ?_ _))
          have HP9 := Lib.hid (hP9.set_ 3 (.int .i64 nv))
          have HZ9 := Lib.hid (HZ_6.out.far (p := ⟨w3.heap.size, 3, none⟩) (by show w.heap.size ≠ w3.heap.size; omega) (.int .i64 nv))
          have HC9 := Lib.hid (HC6.out.belowB hb9 hgl)
          have HG9 := Lib.hid (only_belowB HG6.out hb9 (Nat.le_refl _))
          clear hP9 hb9
          have hZ := HZ9.out
          obtain ⟨c0, c1, c2, c3⟩ := box4 HP_6.out
          obtain ⟨z0, z1, z2, z3⟩ := box4 HZ_6.out
          have f0 := HZ_6.out.frozen 0
          have f1 := HZ_6.out.frozen 1
          have f2 := HZ_6.out.frozen 2
          have f3 := HZ_6.out.frozen 3
          have hbz : Below w.heap.size (World.setCell w6 ⟨w3.heap.size, 3, none⟩ (.int .i64 nv)) (World.setCell (World.setCell (World.setCell (World.setCell (World.setCell w6 ⟨w3.heap.size, 3, none⟩ (.int .i64 nv)) ⟨w.heap.size, 0, none⟩ (.int .i64 st)) ⟨w.heap.size, 1, none⟩ (.int .i64 fr)) ⟨w.heap.size, 2, none⟩ (.int .i64 wi)) ⟨w.heap.size, 3, none⟩ (.int .i64 nv)) := by (repeat (first | with_reducible exact Below.refl _ _ | with_reducible assumption | with_reducible refine Below.setCell ?_ (by simp <;> omega) _ | with_reducible refine Below.alloc ?_ (by first | omega | (simp <;> omega)) _ | with_reducible refine Below.drew ?_ | with_reducible refine below_drewN ?_ _))
          have HCz := Lib.hid (HC9.out.belowB hbz hgl)
          have HGz := Lib.hid (only_belowB HG9.out hbz (Nat.le_refl _))
          have hqn : ¬ w.heap.size = w3.heap.size := by omega
          have hqn2 : ¬ w3.heap.size = w.heap.size := by omega
          have hR : Blk (World.setCell (World.setCell (World.setCell (World.setCell (World.setCell w6 ⟨w3.heap.size, 3, none⟩ (.int .i64 nv)) ⟨w.heap.size, 0, none⟩ (.int .i64 st)) ⟨w.heap.size, 1, none⟩ (.int .i64 fr)) ⟨w.heap.size, 2, none⟩ (.int .i64 wi)) ⟨w.heap.size, 3, none⟩ (.int .i64 nv)) w.heap.size 37 #[.int .i64 st, .int .i64 fr, .int .i64 wi, .int .i64 nv] := ((((hZ.set_ 0 _).set_ 1 _).set_ 2 _).set_ 3 _)
          have HRR := Lib.hid (box4 hR)
          clear hbz hZ hR
          go_wp2
          obtain ⟨r0, r1, r2, r3⟩ := HRR.out
          exact bodyPost_ret (v := .agg #[.int .i64 st, .int .i64 fr, .int .i64 wi, .int .i64 nv]) (by simp [results, Tryd.results85, go_sem, r0, r1, r2, r3]) rfl ⟨⟨st, fr, wi, nv⟩, rfl, HCz.out.more (by omega), HGz.out⟩
        · have n3 : (kk == 3) = false := by simp [e3]
          have hP := HP_5.out
          have hZ := HZ_5.out
          obtain ⟨c0, c1, c2, c3⟩ := box4 hP
          obtain ⟨z0, z1, z2, z3⟩ := box4 hZ
          have f0 := hZ.frozen 0
          have f1 := hZ.frozen 1
          have f2 := hZ.frozen 2
          have f3 := hZ.frozen 3
          have hbz : Below w.heap.size w5 (World.setCell (World.setCell (World.setCell (World.setCell w5 ⟨w.heap.size, 0, none⟩ (.int .i64 st)) ⟨w.heap.size, 1, none⟩ (.int .i64 fr)) ⟨w.heap.size, 2, none⟩ (.int .i64 wi)) ⟨w.heap.size, 3, none⟩ (.int .i64 tm)) := by (repeat (first | with_reducible exact Below.refl _ _ | with_reducible assumption | with_reducible refine Below.setCell ?_ (by simp <;> omega) _ | with_reducible refine Below.alloc ?_ (by first | omega | (simp <;> omega)) _ | with_reducible refine Below.drew ?_ | with_reducible refine below_drewN ?_ _))
          have HCz := Lib.hid (HC5.out.belowB hbz hgl)
          have HGz := Lib.hid (only_belowB HG5.out hbz (Nat.le_refl _))
          have hR : Blk (World.setCell (World.setCell (World.setCell (World.setCell w5 ⟨w.heap.size, 0, none⟩ (.int .i64 st)) ⟨w.heap.size, 1, none⟩ (.int .i64 fr)) ⟨w.heap.size, 2, none⟩ (.int .i64 wi)) ⟨w.heap.size, 3, none⟩ (.int .i64 tm)) w.heap.size 37 #[.int .i64 st, .int .i64 fr, .int .i64 wi, .int .i64 tm] := ((((hZ.set_ 0 _).set_ 1 _).set_ 2 _).set_ 3 _)
          have HRR := Lib.hid (box4 hR)
          clear hbz hP hZ hR
          go_wp2
          obtain ⟨r0, r1, r2, r3⟩ := HRR.out
          exact bodyPost_ret (v := .agg #[.int .i64 st, .int .i64 fr, .int .i64 wi, .int .i64 tm]) (by simp [results, Tryd.results85, go_sem, r0, r1, r2, r3]) rfl ⟨⟨st, fr, wi, tm⟩, rfl, HCz.out.more (by omega), HGz.out⟩

end Go.Proofs.YtjnaigpogloboaaDoor
