/-
  Contracts of the functions that draw picks. (Printed by gen_A13.py.)
-/
import Derived.Test.YtiakaglgfboepaaDraw
import Derived.Test.YtiakaglgfboepaaStep
import Derived.Test.YtiakaglgfboepaaRevS
import Derived.Test.YtiakaglgfboepaaCuS
namespace Go.Proofs.Ytiakaglgfboepaa
set_option linter.unusedVariables false
open Go.RowKit

theorem among_blk (g m : Nat) (ls : List Int) (cs : Array Value) (n c q : Nat) (w : World) (hcs : cs.toList = ls.map fun x => Value.int .i64 x) (hn : n ≤ ls.length) (h1 : 1 ≤ n) (h2 : n ≤ 1000) (hB : Blk w q 3 cs) (hne : q ≠ g) (h : Cur w g m) (hm : m ≤ 900000000) :
    Calls Try.prog 91 #[.pointer (some ⟨g, 0, none⟩), .slice (some ⟨q, 0, none⟩) n c] w fun e w' => ∃ x : Int, e = .returned (.int .i64 x) ∧ x ∈ ls ∧ Cur w' g (m + 2) ∧ w.grownBy w' (some g) := by
  have hl : (ls.take n).length = n := by rw [List.length_take]; omega
  have hr : Rd encI 1 w w.heap.size (some ⟨q, 0, none⟩) (ls.take n) := fun _ =>
    ⟨q, 0, rfl, hB.lt, fun j x hx i v hv => by
      have hi : i = 0 := by
        have := (List.getElem?_eq_some_iff.1 hv).1
        simp [encI] at this; omega
      subst hi
      have hx2 : ls[j]? = some x := by
        rw [List.getElem?_take] at hx
        split at hx
        · exact hx
        · cases hx
      rw [hB.cell, ← Array.getElem?_toList, hcs, List.getElem?_map]
      simp [hx2]
      simpa [encI] using hv⟩
  have hq := among_any g m (some ⟨q, 0, none⟩) c (ls.take n) w h hm ⟨_, _, rfl, hne⟩ hr (by omega) (by omega)
  rw [hl] at hq
  refine hq.mono ?_
  rintro e w' ⟨x, he, hx, hc, hg⟩
  exact ⟨x, he, List.mem_of_mem_take hx, hc, hg⟩

set_option maxRecDepth 100000 in
set_option maxHeartbeats 4000000 in
theorem onset_any (g m : Nat) (id : Int) (w : World) (h : Cur w g m) (hm : m ≤ 800000000) (hi0 : -1000 ≤ id) (hi1 : id ≤ 1000000) :
    Calls Try.prog 94 #[.pointer (some ⟨g, 0, none⟩), .int .i64 id] w fun e w' => ∃ x : Pick, e = .returned (.agg #[.int .i64 x.id, .int .i64 x.station, .int .i64 x.wave, .int .i64 x.tick, .int .i64 x.err, .int .i64 x.by_, .int .i64 x.after_]) ∧ Cur w' g (m + 20) ∧ w.grownBy w' (some g) := by
  have HZ := Lib.hid (Blk.new w 25 #[.int .i64 0, .int .i64 0, .int .i64 0, .int .i64 0, .int .i64 0, .int .i64 0, .int .i64 0])
  have hb0 : Below w.heap.size w (w.alloc (.cells #[.int .i64 0, .int .i64 0, .int .i64 0, .int .i64 0, .int .i64 0, .int .i64 0, .int .i64 0] 25)) := by (repeat (first | with_reducible exact Below.refl _ _ | with_reducible assumption | with_reducible refine Below.setCell ?_ (by simp <;> omega) _ | with_reducible refine Below.alloc ?_ (by first | omega | (simp <;> omega)) _ | with_reducible refine Below.drew ?_ | with_reducible refine below_drewN ?_ _))
  have HC0 := Lib.hid (h.after hb0)
  have HG0 := Lib.hid (only_of_below hb0 (some g))
  have hgl := h.lt
  clear h hb0
  go_enter Try.func94, Try.ntmps94
  go_wp2_with fail
  refine (among_lit g _ [1, 1, 2, 99] _ 4 _ _ (by rfl) (by rfl) (by simp) HC0.out (by omega) (by omega) (by omega)).mono ?_
  rintro e w1 ⟨st, rfl, _, hC, hg⟩
  have HG1 := Lib.hid (only_trans HG0.out hg)
  have HZ_1 := Lib.hid (HZ.out.grown hg (by intro e9; injection e9; omega))
  clear HZ
  have HC1 := Lib.hid hC
  have hs1 := HG1.out.size
  clear hC hg HC0
  go_wp2_with fail
  refine (pick_any g _ 2 _ HC1.out (by omega) (by omega)).mono ?_
  rintro e w2 ⟨wv, rfl, ⟨hwv0, hx⟩, hC, hg⟩
  have HG2 := Lib.hid (only_trans HG1.out hg)
  have HZ_2 := Lib.hid (HZ_1.out.grown hg (by intro e9; injection e9; omega))
  clear HZ_1
  have HC2 := Lib.hid hC
  have hs2 := HG2.out.size
  clear hC hg HC1
  clear hx
  go_wp2_with fail
  refine (among_lit g _ [0, 100, 105, 300, 999990, 1000000] _ 6 _ _ (by rfl) (by rfl) (by simp) HC2.out (by omega) (by omega) (by omega)).mono ?_
  rintro e w3 ⟨tk, rfl, _, hC, hg⟩
  have HG3 := Lib.hid (only_trans HG2.out hg)
  have HZ_3 := Lib.hid (HZ_2.out.grown hg (by intro e9; injection e9; omega))
  clear HZ_2
  have HC3 := Lib.hid hC
  have hs3 := HG3.out.size
  clear hC hg HC2
  go_wp2_with fail
  refine (among_lit g _ [0, 2, 20, 1000] _ 4 _ _ (by rfl) (by rfl) (by simp) HC3.out (by omega) (by omega) (by omega)).mono ?_
  rintro e w4 ⟨er, rfl, _, hC, hg⟩
  have HG4 := Lib.hid (only_trans HG3.out hg)
  have HZ_4 := Lib.hid (HZ_3.out.grown hg (by intro e9; injection e9; omega))
  clear HZ_3
  have HC4 := Lib.hid hC
  have hs4 := HG4.out.size
  clear hC hg HC3
  go_wp2_with fail
  refine (among_lit g _ [0, 0, 1, 50] _ 4 _ _ (by rfl) (by rfl) (by simp) HC4.out (by omega) (by omega) (by omega)).mono ?_
  rintro e w5 ⟨by_, rfl, _, hC, hg⟩
  have HG5 := Lib.hid (only_trans HG4.out hg)
  have HZ_5 := Lib.hid (HZ_4.out.grown hg (by intro e9; injection e9; omega))
  clear HZ_4
  have HC5 := Lib.hid hC
  have hs5 := HG5.out.size
  clear hC hg HC4
  have hbp : Below w5.heap.size w5 (w5.alloc (.cells #[.int .i64 id, .int .i64 st, .int .i64 wv, .int .i64 tk, .int .i64 er, .int .i64 by_, .int .i64 0] 25)) := by (repeat (first | with_reducible exact Below.refl _ _ | with_reducible assumption | with_reducible refine Below.setCell ?_ (by simp <;> omega) _ | with_reducible refine Below.alloc ?_ (by first | omega | (simp <;> omega)) _ | with_reducible refine Below.drew ?_ | with_reducible refine below_drewN ?_ _))
  have HP := Lib.hid (Blk.new w5 25 #[.int .i64 id, .int .i64 st, .int .i64 wv, .int .i64 tk, .int .i64 er, .int .i64 by_, .int .i64 0])
  have HZ_5_b := Lib.hid (HZ_5.out.after hbp)
  have HC6 := Lib.hid (HC5.out.after hbp)
  have HG6 := Lib.hid (only_trans HG5.out (only_of_below hbp _))
  have hqz : w.heap.size < w5.heap.size := HZ_5.out.lt
  have hqg : g < w5.heap.size := HC5.out.lt
  clear hbp
  go_wp2_with fail
  refine (pick_any g _ 80 _ HC6.out (by omega) (by omega)).mono ?_
  rintro e w7 ⟨kk, rfl, ⟨hkk0, hx⟩, hC, hg⟩
  have HG7 := Lib.hid (only_trans HG6.out hg)
  have HZ_7 := Lib.hid (HZ_5_b.out.grown hg (by intro e9; injection e9; omega))
  clear HZ_5_b
  have HP_7 := Lib.hid (HP.out.grown hg (by intro e9; injection e9; omega))
  clear HP
  have HC7 := Lib.hid hC
  have hs7 := HG7.out.size
  clear hC hg HC6
  clear hx
  by_cases e0 : kk = 0
  · subst e0
    go_wp2_with fail
    refine (among_lit g _ [0, 9999, 10000] _ 3 _ _ (by rfl) (by rfl) (by simp) HC7.out (by omega) (by omega) (by omega)).mono ?_
    rintro e w8 ⟨nv, rfl, _, hC, hg⟩
    have HG8 := Lib.hid (only_trans HG7.out hg)
    have HZ_8 := Lib.hid (HZ_7.out.grown hg (by intro e9; injection e9; omega))
    clear HZ_7
    have HP_8 := Lib.hid (HP_7.out.grown hg (by intro e9; injection e9; omega))
    clear HP_7
    have HC8 := Lib.hid hC
    have hs8 := HG8.out.size
    clear hC hg HC7
    have hP9 := HP_8.out
    have d9 := hP9.cell 0
    have f9 := hP9.frozen 0
    simp only [List.getElem?_toArray, List.getElem?_cons_zero] at d9
    have hb9 : Below w.heap.size w8 (World.setCell w8 ⟨w5.heap.size, 0, none⟩ (.int .i64 nv)) := by (repeat (first | with_reducible exact Below.refl _ _ | with_reducible assumption | with_reducible refine Below.setCell ?_ (by simp <;> omega) _ | with_reducible refine Below.alloc ?_ (by first | omega | (simp <;> omega)) _ | with_reducible refine Below.drew ?_ | with_reducible refine below_drewN ?_ _))
    have HP9 := Lib.hid (hP9.set_ 0 (.int .i64 nv))
    have HZ9 := Lib.hid (HZ_8.out.far (p := ⟨w5.heap.size, 0, none⟩) (by show w.heap.size ≠ w5.heap.size; omega) (.int .i64 nv))
    have HC9 := Lib.hid (HC8.out.belowB hb9 hgl)
    have HG9 := Lib.hid (only_belowB HG8.out hb9 (Nat.le_refl _))
    clear hP9 hb9
    have hZ := HZ9.out
    obtain ⟨c0, c1, c2, c3, c4, c5, c6⟩ := box7 HP_8.out
    obtain ⟨z0, z1, z2, z3, z4, z5, z6⟩ := box7 HZ_8.out
    have f0 := HZ_8.out.frozen 0
    have f1 := HZ_8.out.frozen 1
    have f2 := HZ_8.out.frozen 2
    have f3 := HZ_8.out.frozen 3
    have f4 := HZ_8.out.frozen 4
    have f5 := HZ_8.out.frozen 5
    have f6 := HZ_8.out.frozen 6
    have hbz : Below w.heap.size (World.setCell w8 ⟨w5.heap.size, 0, none⟩ (.int .i64 nv)) (World.setCell (World.setCell (World.setCell (World.setCell (World.setCell (World.setCell (World.setCell (World.setCell w8 ⟨w5.heap.size, 0, none⟩ (.int .i64 nv)) ⟨w.heap.size, 0, none⟩ (.int .i64 nv)) ⟨w.heap.size, 1, none⟩ (.int .i64 st)) ⟨w.heap.size, 2, none⟩ (.int .i64 wv)) ⟨w.heap.size, 3, none⟩ (.int .i64 tk)) ⟨w.heap.size, 4, none⟩ (.int .i64 er)) ⟨w.heap.size, 5, none⟩ (.int .i64 by_)) ⟨w.heap.size, 6, none⟩ (.int .i64 0)) := by (repeat (first | with_reducible exact Below.refl _ _ | with_reducible assumption | with_reducible refine Below.setCell ?_ (by simp <;> omega) _ | with_reducible refine Below.alloc ?_ (by first | omega | (simp <;> omega)) _ | with_reducible refine Below.drew ?_ | with_reducible refine below_drewN ?_ _))
    have HCz := Lib.hid (HC9.out.belowB hbz hgl)
    have HGz := Lib.hid (only_belowB HG9.out hbz (Nat.le_refl _))
    have hqn : ¬ w.heap.size = w5.heap.size := by omega
    have hqn2 : ¬ w5.heap.size = w.heap.size := by omega
    have hR : Blk (World.setCell (World.setCell (World.setCell (World.setCell (World.setCell (World.setCell (World.setCell (World.setCell w8 ⟨w5.heap.size, 0, none⟩ (.int .i64 nv)) ⟨w.heap.size, 0, none⟩ (.int .i64 nv)) ⟨w.heap.size, 1, none⟩ (.int .i64 st)) ⟨w.heap.size, 2, none⟩ (.int .i64 wv)) ⟨w.heap.size, 3, none⟩ (.int .i64 tk)) ⟨w.heap.size, 4, none⟩ (.int .i64 er)) ⟨w.heap.size, 5, none⟩ (.int .i64 by_)) ⟨w.heap.size, 6, none⟩ (.int .i64 0)) w.heap.size 25 #[.int .i64 nv, .int .i64 st, .int .i64 wv, .int .i64 tk, .int .i64 er, .int .i64 by_, .int .i64 0] := (((((((hZ.set_ 0 _).set_ 1 _).set_ 2 _).set_ 3 _).set_ 4 _).set_ 5 _).set_ 6 _)
    have HRR := Lib.hid (box7 hR)
    clear hbz hZ hR
    go_wp2
    obtain ⟨r0, r1, r2, r3, r4, r5, r6⟩ := HRR.out
    exact bodyPost_ret (v := .agg #[.int .i64 nv, .int .i64 st, .int .i64 wv, .int .i64 tk, .int .i64 er, .int .i64 by_, .int .i64 0]) (by simp [results, Try.results94, go_sem, r0, r1, r2, r3, r4, r5, r6]) rfl ⟨⟨nv, st, wv, tk, er, by_, 0⟩, rfl, HCz.out.more (by omega), HGz.out⟩
  · have n0 : (kk == 0) = false := by simp [e0]
    by_cases e1 : kk = 1
    · subst e1
      go_wp2_with fail
      refine (among_lit g _ [0, 100] _ 2 _ _ (by rfl) (by rfl) (by simp) HC7.out (by omega) (by omega) (by omega)).mono ?_
      rintro e w8 ⟨nv, rfl, _, hC, hg⟩
      have HG8 := Lib.hid (only_trans HG7.out hg)
      have HZ_8 := Lib.hid (HZ_7.out.grown hg (by intro e9; injection e9; omega))
      clear HZ_7
      have HP_8 := Lib.hid (HP_7.out.grown hg (by intro e9; injection e9; omega))
      clear HP_7
      have HC8 := Lib.hid hC
      have hs8 := HG8.out.size
      clear hC hg HC7
      have hP9 := HP_8.out
      have d9 := hP9.cell 1
      have f9 := hP9.frozen 1
      simp only [List.getElem?_toArray, List.getElem?_cons_zero, List.getElem?_cons_succ] at d9
      have hb9 : Below w.heap.size w8 (World.setCell w8 ⟨w5.heap.size, 1, none⟩ (.int .i64 nv)) := by (repeat (first | with_reducible exact Below.refl _ _ | with_reducible assumption | with_reducible refine Below.setCell ?_ (by simp <;> omega) _ | with_reducible refine Below.alloc ?_ (by first | omega | (simp <;> omega)) _ | with_reducible refine Below.drew ?_ | with_reducible refine below_drewN ?_ _))
      have HP9 := Lib.hid (hP9.set_ 1 (.int .i64 nv))
      have HZ9 := Lib.hid (HZ_8.out.far (p := ⟨w5.heap.size, 1, none⟩) (by show w.heap.size ≠ w5.heap.size; omega) (.int .i64 nv))
      have HC9 := Lib.hid (HC8.out.belowB hb9 hgl)
      have HG9 := Lib.hid (only_belowB HG8.out hb9 (Nat.le_refl _))
      clear hP9 hb9
      have hZ := HZ9.out
      obtain ⟨c0, c1, c2, c3, c4, c5, c6⟩ := box7 HP_8.out
      obtain ⟨z0, z1, z2, z3, z4, z5, z6⟩ := box7 HZ_8.out
      have f0 := HZ_8.out.frozen 0
      have f1 := HZ_8.out.frozen 1
      have f2 := HZ_8.out.frozen 2
      have f3 := HZ_8.out.frozen 3
      have f4 := HZ_8.out.frozen 4
      have f5 := HZ_8.out.frozen 5
      have f6 := HZ_8.out.frozen 6
      have hbz : Below w.heap.size (World.setCell w8 ⟨w5.heap.size, 1, none⟩ (.int .i64 nv)) (World.setCell (World.setCell (World.setCell (World.setCell (World.setCell (World.setCell (World.setCell (World.setCell w8 ⟨w5.heap.size, 1, none⟩ (.int .i64 nv)) ⟨w.heap.size, 0, none⟩ (.int .i64 id)) ⟨w.heap.size, 1, none⟩ (.int .i64 nv)) ⟨w.heap.size, 2, none⟩ (.int .i64 wv)) ⟨w.heap.size, 3, none⟩ (.int .i64 tk)) ⟨w.heap.size, 4, none⟩ (.int .i64 er)) ⟨w.heap.size, 5, none⟩ (.int .i64 by_)) ⟨w.heap.size, 6, none⟩ (.int .i64 0)) := by (repeat (first | with_reducible exact Below.refl _ _ | with_reducible assumption | with_reducible refine Below.setCell ?_ (by simp <;> omega) _ | with_reducible refine Below.alloc ?_ (by first | omega | (simp <;> omega)) _ | with_reducible refine Below.drew ?_ | with_reducible refine below_drewN ?_ _))
      have HCz := Lib.hid (HC9.out.belowB hbz hgl)
      have HGz := Lib.hid (only_belowB HG9.out hbz (Nat.le_refl _))
      have hqn : ¬ w.heap.size = w5.heap.size := by omega
      have hqn2 : ¬ w5.heap.size = w.heap.size := by omega
      have hR : Blk (World.setCell (World.setCell (World.setCell (World.setCell (World.setCell (World.setCell (World.setCell (World.setCell w8 ⟨w5.heap.size, 1, none⟩ (.int .i64 nv)) ⟨w.heap.size, 0, none⟩ (.int .i64 id)) ⟨w.heap.size, 1, none⟩ (.int .i64 nv)) ⟨w.heap.size, 2, none⟩ (.int .i64 wv)) ⟨w.heap.size, 3, none⟩ (.int .i64 tk)) ⟨w.heap.size, 4, none⟩ (.int .i64 er)) ⟨w.heap.size, 5, none⟩ (.int .i64 by_)) ⟨w.heap.size, 6, none⟩ (.int .i64 0)) w.heap.size 25 #[.int .i64 id, .int .i64 nv, .int .i64 wv, .int .i64 tk, .int .i64 er, .int .i64 by_, .int .i64 0] := (((((((hZ.set_ 0 _).set_ 1 _).set_ 2 _).set_ 3 _).set_ 4 _).set_ 5 _).set_ 6 _)
      have HRR := Lib.hid (box7 hR)
      clear hbz hZ hR
      go_wp2
      obtain ⟨r0, r1, r2, r3, r4, r5, r6⟩ := HRR.out
      exact bodyPost_ret (v := .agg #[.int .i64 id, .int .i64 nv, .int .i64 wv, .int .i64 tk, .int .i64 er, .int .i64 by_, .int .i64 0]) (by simp [results, Try.results94, go_sem, r0, r1, r2, r3, r4, r5, r6]) rfl ⟨⟨id, nv, wv, tk, er, by_, 0⟩, rfl, HCz.out.more (by omega), HGz.out⟩
    · have n1 : (kk == 1) = false := by simp [e1]
      by_cases e2 : kk = 2
      · subst e2
        go_wp2_with fail
        refine (among_lit g _ [-1, 2] _ 2 _ _ (by rfl) (by rfl) (by simp) HC7.out (by omega) (by omega) (by omega)).mono ?_
        rintro e w8 ⟨nv, rfl, _, hC, hg⟩
        have HG8 := Lib.hid (only_trans HG7.out hg)
        have HZ_8 := Lib.hid (HZ_7.out.grown hg (by intro e9; injection e9; omega))
        clear HZ_7
        have HP_8 := Lib.hid (HP_7.out.grown hg (by intro e9; injection e9; omega))
        clear HP_7
        have HC8 := Lib.hid hC
        have hs8 := HG8.out.size
        clear hC hg HC7
        have hP9 := HP_8.out
        have d9 := hP9.cell 2
        have f9 := hP9.frozen 2
        simp only [List.getElem?_toArray, List.getElem?_cons_zero, List.getElem?_cons_succ] at d9
        have hb9 : Below w.heap.size w8 (World.setCell w8 ⟨w5.heap.size, 2, none⟩ (.int .i64 nv)) := by (repeat (first | with_reducible exact Below.refl _ _ | with_reducible assumption | with_reducible refine Below.setCell ?_ (by simp <;> omega) _ | with_reducible refine Below.alloc ?_ (by first | omega | (simp <;> omega)) _ | with_reducible refine Below.drew ?_ | with_reducible refine below_drewN ?_ _))
        have HP9 := Lib.hid (hP9.set_ 2 (.int .i64 nv))
        have HZ9 := Lib.hid (HZ_8.out.far (p := ⟨w5.heap.size, 2, none⟩) (by show w.heap.size ≠ w5.heap.size; omega) (.int .i64 nv))
        have HC9 := Lib.hid (HC8.out.belowB hb9 hgl)
        have HG9 := Lib.hid (only_belowB HG8.out hb9 (Nat.le_refl _))
        clear hP9 hb9
        have hZ := HZ9.out
        obtain ⟨c0, c1, c2, c3, c4, c5, c6⟩ := box7 HP_8.out
        obtain ⟨z0, z1, z2, z3, z4, z5, z6⟩ := box7 HZ_8.out
        have f0 := HZ_8.out.frozen 0
        have f1 := HZ_8.out.frozen 1
        have f2 := HZ_8.out.frozen 2
        have f3 := HZ_8.out.frozen 3
        have f4 := HZ_8.out.frozen 4
        have f5 := HZ_8.out.frozen 5
        have f6 := HZ_8.out.frozen 6
        have hbz : Below w.heap.size (World.setCell w8 ⟨w5.heap.size, 2, none⟩ (.int .i64 nv)) (World.setCell (World.setCell (World.setCell (World.setCell (World.setCell (World.setCell (World.setCell (World.setCell w8 ⟨w5.heap.size, 2, none⟩ (.int .i64 nv)) ⟨w.heap.size, 0, none⟩ (.int .i64 id)) ⟨w.heap.size, 1, none⟩ (.int .i64 st)) ⟨w.heap.size, 2, none⟩ (.int .i64 nv)) ⟨w.heap.size, 3, none⟩ (.int .i64 tk)) ⟨w.heap.size, 4, none⟩ (.int .i64 er)) ⟨w.heap.size, 5, none⟩ (.int .i64 by_)) ⟨w.heap.size, 6, none⟩ (.int .i64 0)) := by (repeat (first | with_reducible exact Below.refl _ _ | with_reducible assumption | with_reducible refine Below.setCell ?_ (by simp <;> omega) _ | with_reducible refine Below.alloc ?_ (by first | omega | (simp <;> omega)) _ | with_reducible refine Below.drew ?_ | with_reducible refine below_drewN ?_ _))
        have HCz := Lib.hid (HC9.out.belowB hbz hgl)
        have HGz := Lib.hid (only_belowB HG9.out hbz (Nat.le_refl _))
        have hqn : ¬ w.heap.size = w5.heap.size := by omega
        have hqn2 : ¬ w5.heap.size = w.heap.size := by omega
        have hR : Blk (World.setCell (World.setCell (World.setCell (World.setCell (World.setCell (World.setCell (World.setCell (World.setCell w8 ⟨w5.heap.size, 2, none⟩ (.int .i64 nv)) ⟨w.heap.size, 0, none⟩ (.int .i64 id)) ⟨w.heap.size, 1, none⟩ (.int .i64 st)) ⟨w.heap.size, 2, none⟩ (.int .i64 nv)) ⟨w.heap.size, 3, none⟩ (.int .i64 tk)) ⟨w.heap.size, 4, none⟩ (.int .i64 er)) ⟨w.heap.size, 5, none⟩ (.int .i64 by_)) ⟨w.heap.size, 6, none⟩ (.int .i64 0)) w.heap.size 25 #[.int .i64 id, .int .i64 st, .int .i64 nv, .int .i64 tk, .int .i64 er, .int .i64 by_, .int .i64 0] := (((((((hZ.set_ 0 _).set_ 1 _).set_ 2 _).set_ 3 _).set_ 4 _).set_ 5 _).set_ 6 _)
        have HRR := Lib.hid (box7 hR)
        clear hbz hZ hR
        go_wp2
        obtain ⟨r0, r1, r2, r3, r4, r5, r6⟩ := HRR.out
        exact bodyPost_ret (v := .agg #[.int .i64 id, .int .i64 st, .int .i64 nv, .int .i64 tk, .int .i64 er, .int .i64 by_, .int .i64 0]) (by simp [results, Try.results94, go_sem, r0, r1, r2, r3, r4, r5, r6]) rfl ⟨⟨id, st, nv, tk, er, by_, 0⟩, rfl, HCz.out.more (by omega), HGz.out⟩
      · have n2 : (kk == 2) = false := by simp [e2]
        by_cases e3 : kk = 3
        · subst e3
          go_wp2_with fail
          refine (among_lit g _ [-1, 1000001] _ 2 _ _ (by rfl) (by rfl) (by simp) HC7.out (by omega) (by omega) (by omega)).mono ?_
          rintro e w8 ⟨nv, rfl, _, hC, hg⟩
          have HG8 := Lib.hid (only_trans HG7.out hg)
          have HZ_8 := Lib.hid (HZ_7.out.grown hg (by intro e9; injection e9; omega))
          clear HZ_7
          have HP_8 := Lib.hid (HP_7.out.grown hg (by intro e9; injection e9; omega))
          clear HP_7
          have HC8 := Lib.hid hC
          have hs8 := HG8.out.size
          clear hC hg HC7
          have hP9 := HP_8.out
          have d9 := hP9.cell 3
          have f9 := hP9.frozen 3
          simp only [List.getElem?_toArray, List.getElem?_cons_zero, List.getElem?_cons_succ] at d9
          have hb9 : Below w.heap.size w8 (World.setCell w8 ⟨w5.heap.size, 3, none⟩ (.int .i64 nv)) := by (repeat (first | with_reducible exact Below.refl _ _ | with_reducible assumption | with_reducible refine Below.setCell ?_ (by simp <;> omega) _ | with_reducible refine Below.alloc ?_ (by first | omega | (simp <;> omega)) _ | with_reducible refine Below.drew ?_ | with_reducible refine below_drewN ?_ _))
          have HP9 := Lib.hid (hP9.set_ 3 (.int .i64 nv))
          have HZ9 := Lib.hid (HZ_8.out.far (p := ⟨w5.heap.size, 3, none⟩) (by show w.heap.size ≠ w5.heap.size; omega) (.int .i64 nv))
          have HC9 := Lib.hid (HC8.out.belowB hb9 hgl)
          have HG9 := Lib.hid (only_belowB HG8.out hb9 (Nat.le_refl _))
          clear hP9 hb9
          have hZ := HZ9.out
          obtain ⟨c0, c1, c2, c3, c4, c5, c6⟩ := box7 HP_8.out
          obtain ⟨z0, z1, z2, z3, z4, z5, z6⟩ := box7 HZ_8.out
          have f0 := HZ_8.out.frozen 0
          have f1 := HZ_8.out.frozen 1
          have f2 := HZ_8.out.frozen 2
          have f3 := HZ_8.out.frozen 3
          have f4 := HZ_8.out.frozen 4
          have f5 := HZ_8.out.frozen 5
          have f6 := HZ_8.out.frozen 6
          have hbz : Below w.heap.size (World.setCell w8 ⟨w5.heap.size, 3, none⟩ (.int .i64 nv)) (World.setCell (World.setCell (World.setCell (World.setCell (World.setCell (World.setCell (World.setCell (World.setCell w8 ⟨w5.heap.size, 3, none⟩ (.int .i64 nv)) ⟨w.heap.size, 0, none⟩ (.int .i64 id)) ⟨w.heap.size, 1, none⟩ (.int .i64 st)) ⟨w.heap.size, 2, none⟩ (.int .i64 wv)) ⟨w.heap.size, 3, none⟩ (.int .i64 nv)) ⟨w.heap.size, 4, none⟩ (.int .i64 er)) ⟨w.heap.size, 5, none⟩ (.int .i64 by_)) ⟨w.heap.size, 6, none⟩ (.int .i64 0)) := by (repeat (first | with_reducible exact Below.refl _ _ | with_reducible assumption | with_reducible refine Below.setCell ?_ (by simp <;> omega) _ | with_reducible refine Below.alloc ?_ (by first | omega | (simp <;> omega)) _ | with_reducible refine Below.drew ?_ | with_reducible refine below_drewN ?_ _))
          have HCz := Lib.hid (HC9.out.belowB hbz hgl)
          have HGz := Lib.hid (only_belowB HG9.out hbz (Nat.le_refl _))
          have hqn : ¬ w.heap.size = w5.heap.size := by omega
          have hqn2 : ¬ w5.heap.size = w.heap.size := by omega
          have hR : Blk (World.setCell (World.setCell (World.setCell (World.setCell (World.setCell (World.setCell (World.setCell (World.setCell w8 ⟨w5.heap.size, 3, none⟩ (.int .i64 nv)) ⟨w.heap.size, 0, none⟩ (.int .i64 id)) ⟨w.heap.size, 1, none⟩ (.int .i64 st)) ⟨w.heap.size, 2, none⟩ (.int .i64 wv)) ⟨w.heap.size, 3, none⟩ (.int .i64 nv)) ⟨w.heap.size, 4, none⟩ (.int .i64 er)) ⟨w.heap.size, 5, none⟩ (.int .i64 by_)) ⟨w.heap.size, 6, none⟩ (.int .i64 0)) w.heap.size 25 #[.int .i64 id, .int .i64 st, .int .i64 wv, .int .i64 nv, .int .i64 er, .int .i64 by_, .int .i64 0] := (((((((hZ.set_ 0 _).set_ 1 _).set_ 2 _).set_ 3 _).set_ 4 _).set_ 5 _).set_ 6 _)
          have HRR := Lib.hid (box7 hR)
          clear hbz hZ hR
          go_wp2
          obtain ⟨r0, r1, r2, r3, r4, r5, r6⟩ := HRR.out
          exact bodyPost_ret (v := .agg #[.int .i64 id, .int .i64 st, .int .i64 wv, .int .i64 nv, .int .i64 er, .int .i64 by_, .int .i64 0]) (by simp [results, Try.results94, go_sem, r0, r1, r2, r3, r4, r5, r6]) rfl ⟨⟨id, st, wv, nv, er, by_, 0⟩, rfl, HCz.out.more (by omega), HGz.out⟩
        · have n3 : (kk == 3) = false := by simp [e3]
          by_cases e4 : kk = 4
          · subst e4
            go_wp2_with fail
            refine (among_lit g _ [-1, 1001] _ 2 _ _ (by rfl) (by rfl) (by simp) HC7.out (by omega) (by omega) (by omega)).mono ?_
            rintro e w8 ⟨nv, rfl, _, hC, hg⟩
            have HG8 := Lib.hid (only_trans HG7.out hg)
            have HZ_8 := Lib.hid (HZ_7.out.grown hg (by intro e9; injection e9; omega))
            clear HZ_7
            have HP_8 := Lib.hid (HP_7.out.grown hg (by intro e9; injection e9; omega))
            clear HP_7
            have HC8 := Lib.hid hC
            have hs8 := HG8.out.size
            clear hC hg HC7
            have hP9 := HP_8.out
            have d9 := hP9.cell 4
            have f9 := hP9.frozen 4
            simp only [List.getElem?_toArray, List.getElem?_cons_zero, List.getElem?_cons_succ] at d9
            have hb9 : Below w.heap.size w8 (World.setCell w8 ⟨w5.heap.size, 4, none⟩ (.int .i64 nv)) := by (repeat (first | with_reducible exact Below.refl _ _ | with_reducible assumption | with_reducible refine Below.setCell ?_ (by simp <;> omega) _ | with_reducible refine Below.alloc ?_ (by first | omega | (simp <;> omega)) _ | with_reducible refine Below.drew ?_ | with_reducible refine below_drewN ?_ _))
            have HP9 := Lib.hid (hP9.set_ 4 (.int .i64 nv))
            have HZ9 := Lib.hid (HZ_8.out.far (p := ⟨w5.heap.size, 4, none⟩) (by show w.heap.size ≠ w5.heap.size; omega) (.int .i64 nv))
            have HC9 := Lib.hid (HC8.out.belowB hb9 hgl)
            have HG9 := Lib.hid (only_belowB HG8.out hb9 (Nat.le_refl _))
            clear hP9 hb9
            have hZ := HZ9.out
            obtain ⟨c0, c1, c2, c3, c4, c5, c6⟩ := box7 HP_8.out
            obtain ⟨z0, z1, z2, z3, z4, z5, z6⟩ := box7 HZ_8.out
            have f0 := HZ_8.out.frozen 0
            have f1 := HZ_8.out.frozen 1
            have f2 := HZ_8.out.frozen 2
            have f3 := HZ_8.out.frozen 3
            have f4 := HZ_8.out.frozen 4
            have f5 := HZ_8.out.frozen 5
            have f6 := HZ_8.out.frozen 6
            have hbz : Below w.heap.size (World.setCell w8 ⟨w5.heap.size, 4, none⟩ (.int .i64 nv)) (World.setCell (World.setCell (World.setCell (World.setCell (World.setCell (World.setCell (World.setCell (World.setCell w8 ⟨w5.heap.size, 4, none⟩ (.int .i64 nv)) ⟨w.heap.size, 0, none⟩ (.int .i64 id)) ⟨w.heap.size, 1, none⟩ (.int .i64 st)) ⟨w.heap.size, 2, none⟩ (.int .i64 wv)) ⟨w.heap.size, 3, none⟩ (.int .i64 tk)) ⟨w.heap.size, 4, none⟩ (.int .i64 nv)) ⟨w.heap.size, 5, none⟩ (.int .i64 by_)) ⟨w.heap.size, 6, none⟩ (.int .i64 0)) := by (repeat (first | with_reducible exact Below.refl _ _ | with_reducible assumption | with_reducible refine Below.setCell ?_ (by simp <;> omega) _ | with_reducible refine Below.alloc ?_ (by first | omega | (simp <;> omega)) _ | with_reducible refine Below.drew ?_ | with_reducible refine below_drewN ?_ _))
            have HCz := Lib.hid (HC9.out.belowB hbz hgl)
            have HGz := Lib.hid (only_belowB HG9.out hbz (Nat.le_refl _))
            have hqn : ¬ w.heap.size = w5.heap.size := by omega
            have hqn2 : ¬ w5.heap.size = w.heap.size := by omega
            have hR : Blk (World.setCell (World.setCell (World.setCell (World.setCell (World.setCell (World.setCell (World.setCell (World.setCell w8 ⟨w5.heap.size, 4, none⟩ (.int .i64 nv)) ⟨w.heap.size, 0, none⟩ (.int .i64 id)) ⟨w.heap.size, 1, none⟩ (.int .i64 st)) ⟨w.heap.size, 2, none⟩ (.int .i64 wv)) ⟨w.heap.size, 3, none⟩ (.int .i64 tk)) ⟨w.heap.size, 4, none⟩ (.int .i64 nv)) ⟨w.heap.size, 5, none⟩ (.int .i64 by_)) ⟨w.heap.size, 6, none⟩ (.int .i64 0)) w.heap.size 25 #[.int .i64 id, .int .i64 st, .int .i64 wv, .int .i64 tk, .int .i64 nv, .int .i64 by_, .int .i64 0] := (((((((hZ.set_ 0 _).set_ 1 _).set_ 2 _).set_ 3 _).set_ 4 _).set_ 5 _).set_ 6 _)
            have HRR := Lib.hid (box7 hR)
            clear hbz hZ hR
            go_wp2
            obtain ⟨r0, r1, r2, r3, r4, r5, r6⟩ := HRR.out
            exact bodyPost_ret (v := .agg #[.int .i64 id, .int .i64 st, .int .i64 wv, .int .i64 tk, .int .i64 nv, .int .i64 by_, .int .i64 0]) (by simp [results, Try.results94, go_sem, r0, r1, r2, r3, r4, r5, r6]) rfl ⟨⟨id, st, wv, tk, nv, by_, 0⟩, rfl, HCz.out.more (by omega), HGz.out⟩
          · have n4 : (kk == 4) = false := by simp [e4]
            by_cases e5 : kk = 5
            · subst e5
              go_wp2_with fail
              refine (among_lit g _ [-1, 51] _ 2 _ _ (by rfl) (by rfl) (by simp) HC7.out (by omega) (by omega) (by omega)).mono ?_
              rintro e w8 ⟨nv, rfl, _, hC, hg⟩
              have HG8 := Lib.hid (only_trans HG7.out hg)
              have HZ_8 := Lib.hid (HZ_7.out.grown hg (by intro e9; injection e9; omega))
              clear HZ_7
              have HP_8 := Lib.hid (HP_7.out.grown hg (by intro e9; injection e9; omega))
              clear HP_7
              have HC8 := Lib.hid hC
              have hs8 := HG8.out.size
              clear hC hg HC7
              have hP9 := HP_8.out
              have d9 := hP9.cell 5
              have f9 := hP9.frozen 5
              simp only [List.getElem?_toArray, List.getElem?_cons_zero, List.getElem?_cons_succ] at d9
              have hb9 : Below w.heap.size w8 (World.setCell w8 ⟨w5.heap.size, 5, none⟩ (.int .i64 nv)) := by (repeat (first | with_reducible exact Below.refl _ _ | with_reducible assumption | with_reducible refine Below.setCell ?_ (by simp <;> omega) _ | with_reducible refine Below.alloc ?_ (by first | omega | (simp <;> omega)) _ | with_reducible refine Below.drew ?_ | with_reducible refine below_drewN ?_ _))
              have HP9 := Lib.hid (hP9.set_ 5 (.int .i64 nv))
              have HZ9 := Lib.hid (HZ_8.out.far (p := ⟨w5.heap.size, 5, none⟩) (by show w.heap.size ≠ w5.heap.size; omega) (.int .i64 nv))
              have HC9 := Lib.hid (HC8.out.belowB hb9 hgl)
              have HG9 := Lib.hid (only_belowB HG8.out hb9 (Nat.le_refl _))
              clear hP9 hb9
              have hZ := HZ9.out
              obtain ⟨c0, c1, c2, c3, c4, c5, c6⟩ := box7 HP_8.out
              obtain ⟨z0, z1, z2, z3, z4, z5, z6⟩ := box7 HZ_8.out
              have f0 := HZ_8.out.frozen 0
              have f1 := HZ_8.out.frozen 1
              have f2 := HZ_8.out.frozen 2
              have f3 := HZ_8.out.frozen 3
              have f4 := HZ_8.out.frozen 4
              have f5 := HZ_8.out.frozen 5
              have f6 := HZ_8.out.frozen 6
              have hbz : Below w.heap.size (World.setCell w8 ⟨w5.heap.size, 5, none⟩ (.int .i64 nv)) (World.setCell (World.setCell (World.setCell (World.setCell (World.setCell (World.setCell (World.setCell (World.setCell w8 ⟨w5.heap.size, 5, none⟩ (.int .i64 nv)) ⟨w.heap.size, 0, none⟩ (.int .i64 id)) ⟨w.heap.size, 1, none⟩ (.int .i64 st)) ⟨w.heap.size, 2, none⟩ (.int .i64 wv)) ⟨w.heap.size, 3, none⟩ (.int .i64 tk)) ⟨w.heap.size, 4, none⟩ (.int .i64 er)) ⟨w.heap.size, 5, none⟩ (.int .i64 nv)) ⟨w.heap.size, 6, none⟩ (.int .i64 0)) := by (repeat (first | with_reducible exact Below.refl _ _ | with_reducible assumption | with_reducible refine Below.setCell ?_ (by simp <;> omega) _ | with_reducible refine Below.alloc ?_ (by first | omega | (simp <;> omega)) _ | with_reducible refine Below.drew ?_ | with_reducible refine below_drewN ?_ _))
              have HCz := Lib.hid (HC9.out.belowB hbz hgl)
              have HGz := Lib.hid (only_belowB HG9.out hbz (Nat.le_refl _))
              have hqn : ¬ w.heap.size = w5.heap.size := by omega
              have hqn2 : ¬ w5.heap.size = w.heap.size := by omega
              have hR : Blk (World.setCell (World.setCell (World.setCell (World.setCell (World.setCell (World.setCell (World.setCell (World.setCell w8 ⟨w5.heap.size, 5, none⟩ (.int .i64 nv)) ⟨w.heap.size, 0, none⟩ (.int .i64 id)) ⟨w.heap.size, 1, none⟩ (.int .i64 st)) ⟨w.heap.size, 2, none⟩ (.int .i64 wv)) ⟨w.heap.size, 3, none⟩ (.int .i64 tk)) ⟨w.heap.size, 4, none⟩ (.int .i64 er)) ⟨w.heap.size, 5, none⟩ (.int .i64 nv)) ⟨w.heap.size, 6, none⟩ (.int .i64 0)) w.heap.size 25 #[.int .i64 id, .int .i64 st, .int .i64 wv, .int .i64 tk, .int .i64 er, .int .i64 nv, .int .i64 0] := (((((((hZ.set_ 0 _).set_ 1 _).set_ 2 _).set_ 3 _).set_ 4 _).set_ 5 _).set_ 6 _)
              have HRR := Lib.hid (box7 hR)
              clear hbz hZ hR
              go_wp2
              obtain ⟨r0, r1, r2, r3, r4, r5, r6⟩ := HRR.out
              exact bodyPost_ret (v := .agg #[.int .i64 id, .int .i64 st, .int .i64 wv, .int .i64 tk, .int .i64 er, .int .i64 nv, .int .i64 0]) (by simp [results, Try.results94, go_sem, r0, r1, r2, r3, r4, r5, r6]) rfl ⟨⟨id, st, wv, tk, er, nv, 0⟩, rfl, HCz.out.more (by omega), HGz.out⟩
            · have n5 : (kk == 5) = false := by simp [e5]
              by_cases e6 : kk = 6
              · obtain ⟨y0, y1, y2, y3, y4, y5, y6⟩ := box7 HP_7.out
                subst e6
                go_wp2_with fail
                refine (among_lit g _ [-1, id, id - 1] _ 3 _ _ (by rfl) (by rfl) (by simp) HC7.out (by omega) (by omega) (by omega)).mono ?_
                rintro e w8 ⟨nv, rfl, _, hC, hg⟩
                have HG8 := Lib.hid (only_trans HG7.out hg)
                have HZ_8 := Lib.hid (HZ_7.out.grown hg (by intro e9; injection e9; omega))
                clear HZ_7
                have HP_8 := Lib.hid (HP_7.out.grown hg (by intro e9; injection e9; omega))
                clear HP_7
                have HC8 := Lib.hid hC
                have hs8 := HG8.out.size
                clear hC hg HC7
                clear y0 y1 y2 y3 y4 y5 y6
                have hP9 := HP_8.out
                have d9 := hP9.cell 6
                have f9 := hP9.frozen 6
                simp only [List.getElem?_toArray, List.getElem?_cons_zero, List.getElem?_cons_succ] at d9
                have hb9 : Below w.heap.size w8 (World.setCell w8 ⟨w5.heap.size, 6, none⟩ (.int .i64 nv)) := by (repeat (first | with_reducible exact Below.refl _ _ | with_reducible assumption | with_reducible refine Below.setCell ?_ (by simp <;> omega) _ | with_reducible refine Below.alloc ?_ (by first | omega | (simp <;> omega)) _ | with_reducible refine Below.drew ?_ | with_reducible refine below_drewN ?_ _))
                have HP9 := Lib.hid (hP9.set_ 6 (.int .i64 nv))
                have HZ9 := Lib.hid (HZ_8.out.far (p := ⟨w5.heap.size, 6, none⟩) (by show w.heap.size ≠ w5.heap.size; omega) (.int .i64 nv))
                have HC9 := Lib.hid (HC8.out.belowB hb9 hgl)
                have HG9 := Lib.hid (only_belowB HG8.out hb9 (Nat.le_refl _))
                clear hP9 hb9
                have hZ := HZ9.out
                obtain ⟨c0, c1, c2, c3, c4, c5, c6⟩ := box7 HP_8.out
                obtain ⟨z0, z1, z2, z3, z4, z5, z6⟩ := box7 HZ_8.out
                have f0 := HZ_8.out.frozen 0
                have f1 := HZ_8.out.frozen 1
                have f2 := HZ_8.out.frozen 2
                have f3 := HZ_8.out.frozen 3
                have f4 := HZ_8.out.frozen 4
                have f5 := HZ_8.out.frozen 5
                have f6 := HZ_8.out.frozen 6
                have hbz : Below w.heap.size (World.setCell w8 ⟨w5.heap.size, 6, none⟩ (.int .i64 nv)) (World.setCell (World.setCell (World.setCell (World.setCell (World.setCell (World.setCell (World.setCell (World.setCell w8 ⟨w5.heap.size, 6, none⟩ (.int .i64 nv)) ⟨w.heap.size, 0, none⟩ (.int .i64 id)) ⟨w.heap.size, 1, none⟩ (.int .i64 st)) ⟨w.heap.size, 2, none⟩ (.int .i64 wv)) ⟨w.heap.size, 3, none⟩ (.int .i64 tk)) ⟨w.heap.size, 4, none⟩ (.int .i64 er)) ⟨w.heap.size, 5, none⟩ (.int .i64 by_)) ⟨w.heap.size, 6, none⟩ (.int .i64 nv)) := by (repeat (first | with_reducible exact Below.refl _ _ | with_reducible assumption | with_reducible refine Below.setCell ?_ (by simp <;> omega) _ | with_reducible refine Below.alloc ?_ (by first | omega | (simp <;> omega)) _ | with_reducible refine Below.drew ?_ | with_reducible refine below_drewN ?_ _))
                have HCz := Lib.hid (HC9.out.belowB hbz hgl)
                have HGz := Lib.hid (only_belowB HG9.out hbz (Nat.le_refl _))
                have hqn : ¬ w.heap.size = w5.heap.size := by omega
                have hqn2 : ¬ w5.heap.size = w.heap.size := by omega
                have hR : Blk (World.setCell (World.setCell (World.setCell (World.setCell (World.setCell (World.setCell (World.setCell (World.setCell w8 ⟨w5.heap.size, 6, none⟩ (.int .i64 nv)) ⟨w.heap.size, 0, none⟩ (.int .i64 id)) ⟨w.heap.size, 1, none⟩ (.int .i64 st)) ⟨w.heap.size, 2, none⟩ (.int .i64 wv)) ⟨w.heap.size, 3, none⟩ (.int .i64 tk)) ⟨w.heap.size, 4, none⟩ (.int .i64 er)) ⟨w.heap.size, 5, none⟩ (.int .i64 by_)) ⟨w.heap.size, 6, none⟩ (.int .i64 nv)) w.heap.size 25 #[.int .i64 id, .int .i64 st, .int .i64 wv, .int .i64 tk, .int .i64 er, .int .i64 by_, .int .i64 nv] := (((((((hZ.set_ 0 _).set_ 1 _).set_ 2 _).set_ 3 _).set_ 4 _).set_ 5 _).set_ 6 _)
                have HRR := Lib.hid (box7 hR)
                clear hbz hZ hR
                go_wp2
                obtain ⟨r0, r1, r2, r3, r4, r5, r6⟩ := HRR.out
                exact bodyPost_ret (v := .agg #[.int .i64 id, .int .i64 st, .int .i64 wv, .int .i64 tk, .int .i64 er, .int .i64 by_, .int .i64 nv]) (by simp [results, Try.results94, go_sem, r0, r1, r2, r3, r4, r5, r6]) rfl ⟨⟨id, st, wv, tk, er, by_, nv⟩, rfl, HCz.out.more (by omega), HGz.out⟩
              · have n6 : (kk == 6) = false := by simp [e6]
                have hP := HP_7.out
                have hZ := HZ_7.out
                obtain ⟨c0, c1, c2, c3, c4, c5, c6⟩ := box7 hP
                obtain ⟨z0, z1, z2, z3, z4, z5, z6⟩ := box7 hZ
                have f0 := hZ.frozen 0
                have f1 := hZ.frozen 1
                have f2 := hZ.frozen 2
                have f3 := hZ.frozen 3
                have f4 := hZ.frozen 4
                have f5 := hZ.frozen 5
                have f6 := hZ.frozen 6
                have hbz : Below w.heap.size w7 (World.setCell (World.setCell (World.setCell (World.setCell (World.setCell (World.setCell (World.setCell w7 ⟨w.heap.size, 0, none⟩ (.int .i64 id)) ⟨w.heap.size, 1, none⟩ (.int .i64 st)) ⟨w.heap.size, 2, none⟩ (.int .i64 wv)) ⟨w.heap.size, 3, none⟩ (.int .i64 tk)) ⟨w.heap.size, 4, none⟩ (.int .i64 er)) ⟨w.heap.size, 5, none⟩ (.int .i64 by_)) ⟨w.heap.size, 6, none⟩ (.int .i64 0)) := by (repeat (first | with_reducible exact Below.refl _ _ | with_reducible assumption | with_reducible refine Below.setCell ?_ (by simp <;> omega) _ | with_reducible refine Below.alloc ?_ (by first | omega | (simp <;> omega)) _ | with_reducible refine Below.drew ?_ | with_reducible refine below_drewN ?_ _))
                have HCz := Lib.hid (HC7.out.belowB hbz hgl)
                have HGz := Lib.hid (only_belowB HG7.out hbz (Nat.le_refl _))
                have hR : Blk (World.setCell (World.setCell (World.setCell (World.setCell (World.setCell (World.setCell (World.setCell w7 ⟨w.heap.size, 0, none⟩ (.int .i64 id)) ⟨w.heap.size, 1, none⟩ (.int .i64 st)) ⟨w.heap.size, 2, none⟩ (.int .i64 wv)) ⟨w.heap.size, 3, none⟩ (.int .i64 tk)) ⟨w.heap.size, 4, none⟩ (.int .i64 er)) ⟨w.heap.size, 5, none⟩ (.int .i64 by_)) ⟨w.heap.size, 6, none⟩ (.int .i64 0)) w.heap.size 25 #[.int .i64 id, .int .i64 st, .int .i64 wv, .int .i64 tk, .int .i64 er, .int .i64 by_, .int .i64 0] := (((((((hZ.set_ 0 _).set_ 1 _).set_ 2 _).set_ 3 _).set_ 4 _).set_ 5 _).set_ 6 _)
                have HRR := Lib.hid (box7 hR)
                clear hbz hP hZ hR
                go_wp2
                obtain ⟨r0, r1, r2, r3, r4, r5, r6⟩ := HRR.out
                exact bodyPost_ret (v := .agg #[.int .i64 id, .int .i64 st, .int .i64 wv, .int .i64 tk, .int .i64 er, .int .i64 by_, .int .i64 0]) (by simp [results, Try.results94, go_sem, r0, r1, r2, r3, r4, r5, r6]) rfl ⟨⟨id, st, wv, tk, er, by_, 0⟩, rfl, HCz.out.more (by omega), HGz.out⟩

end Go.Proofs.Ytiakaglgfboepaa
