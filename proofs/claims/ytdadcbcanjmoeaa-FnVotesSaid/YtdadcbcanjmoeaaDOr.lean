/-
  Contract of the function that draws an origin; looser contracts of a root and a square. (Printed by gen_D20.py.)
-/
import Derived.Test.YtdadcbcanjmoeaaDraw
import Derived.Test.YtdadcbcanjmoeaaAmB
import Derived.Test.YtdadcbcanjmoeaaRoot
import Derived.Test.YtdadcbcanjmoeaaFits
import Derived.Deep.RegionHeld3
import Derived.BigQuiet
import Derived.Deep.CutRange
import Derived.Deep.DeepCutAuto
import Derived.Deep.CutBlock
namespace Go.Proofs.Ytdadcbcanjmoeaa
set_option linter.unusedVariables false
open Go.RowKit

set_option maxHeartbeats 400000 in
theorem l10Root_loose (n : Int) (w : World) :
    Calls Try.prog 109 #[.int .i64 n] w fun e w' => ∃ r : Int, e = .returned (.int .i64 r) ∧ w = w' := by
  go_enter Try.func109, Try.ntmps109
  go_wp2
  go_loop [3, 4] (fun u v => ∃ a b : Int, 0 ≤ a ∧ a ≤ b ∧ b ≤ 40000 ∧ u = .int .i64 a ∧ v = .int .i64 b) (fun u v => (intOf v - intOf u).toNat)
  case atStart => exact ⟨0, 40000, by omega, by omega, by omega, rfl, rfl⟩
  case round =>
    obtain ⟨a, b, ha, hab, hb, rfl, rfl⟩ := hrel
    by_cases hlt : a < b
    · have hm1 : 0 ≤ (a + b + 1) / 2 := by omega
      have hm2 : (a + b + 1) / 2 ≤ 40000 := by omega
      have hm3 := Int.mul_nonneg hm1 hm1
      have hm4 : (a + b + 1) / 2 * ((a + b + 1) / 2) ≤ 40000 * 40000 := Int.mul_le_mul hm2 hm2 hm1 (by omega)
      by_cases hq : (a + b + 1) / 2 * ((a + b + 1) / 2) ≤ n
      · go_wp2
        go_round
        case rel => exact ⟨(a + b + 1) / 2, b, by omega, by omega, by omega, rfl, rfl⟩
        case measure => simp [intOf]; omega
      · go_wp2
        go_round
        case rel => exact ⟨a, (a + b + 1) / 2 - 1, by omega, by omega, by omega, rfl, rfl⟩
        case measure => simp [intOf]; omega
    · obtain rfl : a = b := by omega
      go_wp2
      go_ret
      exact ⟨⟨_, rfl⟩, rfl⟩
theorem l10Square_loose (x y u v : Int) (w : World) :
    Calls Try.prog 108 #[.int .i64 x, .int .i64 y, .int .i64 u, .int .i64 v] w fun e w' => ∃ r : Int, e = .returned (.int .i64 r) ∧ w = w' := by
  go_enter Try.func108, Try.ntmps108
  go_wp2
  go_ret
  exact ⟨_, rfl, rfl⟩

set_option maxRecDepth 100000 in
set_option maxHeartbeats 4000000 in
theorem quake_any (g m : Nat) (w : World) (h : Cur w g m) (hm : m ≤ 800000000) :
    Calls Try.prog 95 #[.pointer (some ⟨g, 0, none⟩)] w fun e w' => ∃ o : Origin, e = .returned (.agg #[.int .i64 o.x, .int .i64 o.y, .int .i64 o.tick]) ∧ Cur w' g (m + 20) ∧ w.grownBy w' (some g) := by
  have HZ := Lib.hid (Blk.new w 39 #[.int .i64 0, .int .i64 0, .int .i64 0])
  have hb0 : Below w.heap.size w (w.alloc (.cells #[.int .i64 0, .int .i64 0, .int .i64 0] 39)) := by (repeat (first | with_reducible exact Below.refl _ _ | with_reducible assumption | with_reducible refine Below.setCell ?_ (by simp <;> omega) _ | with_reducible refine Below.alloc ?_ (by first | omega | (simp <;> omega)) _ | with_reducible refine Below.drew ?_ | with_reducible refine below_drewN ?_ _))
  have HC0 := Lib.hid (h.after hb0)
  have HG0 := Lib.hid (only_of_below hb0 (some g))
  have hgl := h.lt
  clear h hb0
  go_enter Try.func95, Try.ntmps95
  go_wp2_with fail
  refine (among_lit g _ [0, 100, 200, 330, 400, 999] _ 6 _ _ (by rfl) (by rfl) (by simp) HC0.out (by omega) (by omega) (by omega)).mono ?_
  rintro e w1 ⟨ox, rfl, _, hC, hg⟩
  have HG1 := Lib.hid (only_trans HG0.out hg)
  have HZ_1 := Lib.hid (HZ.out.grown hg (by intro e9; injection e9; omega))
  clear HZ
  have HC1 := Lib.hid hC
  have hs1 := HG1.out.size
  clear hC hg HC0
  go_wp2_with fail
  refine (among_lit g _ [0, 50, 200, 400, 700] _ 5 _ _ (by rfl) (by rfl) (by simp) HC1.out (by omega) (by omega) (by omega)).mono ?_
  rintro e w2 ⟨oy, rfl, _, hC, hg⟩
  have HG2 := Lib.hid (only_trans HG1.out hg)
  have HZ_2 := Lib.hid (HZ_1.out.grown hg (by intro e9; injection e9; omega))
  clear HZ_1
  have HC2 := Lib.hid hC
  have hs2 := HG2.out.size
  clear hC hg HC1
  go_wp2_with fail
  refine (among_lit g _ [0, 1000, 5000, 60000] _ 4 _ _ (by rfl) (by rfl) (by simp) HC2.out (by omega) (by omega) (by omega)).mono ?_
  rintro e w3 ⟨ot, rfl, _, hC, hg⟩
  have HG3 := Lib.hid (only_trans HG2.out hg)
  have HZ_3 := Lib.hid (HZ_2.out.grown hg (by intro e9; injection e9; omega))
  clear HZ_2
  have HC3 := Lib.hid hC
  have hs3 := HG3.out.size
  clear hC hg HC2
  have hbp : Below w3.heap.size w3 (w3.alloc (.cells #[.int .i64 ox, .int .i64 oy, .int .i64 ot] 39)) := by (repeat (first | with_reducible exact Below.refl _ _ | with_reducible assumption | with_reducible refine Below.setCell ?_ (by simp <;> omega) _ | with_reducible refine Below.alloc ?_ (by first | omega | (simp <;> omega)) _ | with_reducible refine Below.drew ?_ | with_reducible refine below_drewN ?_ _))
  have HP := Lib.hid (Blk.new w3 39 #[.int .i64 ox, .int .i64 oy, .int .i64 ot])
  have HZ_3_b := Lib.hid (HZ_3.out.after hbp)
  have HC4 := Lib.hid (HC3.out.after hbp)
  have HG4 := Lib.hid (only_trans HG3.out (only_of_below hbp _))
  have hqz : w.heap.size < w3.heap.size := HZ_3.out.lt
  have hqg : g < w3.heap.size := HC3.out.lt
  clear hbp
  go_wp2_with fail
  refine (one_any g _ 40 _ HC4.out (by omega) (by omega)).mono ?_
  rintro e w5 ⟨bo, rfl, hC, hg⟩
  have HG5 := Lib.hid (only_trans HG4.out hg)
  have HZ_5 := Lib.hid (HZ_3_b.out.grown hg (by intro e9; injection e9; omega))
  clear HZ_3_b
  have HP_5 := Lib.hid (HP.out.grown hg (by intro e9; injection e9; omega))
  clear HP
  have HC5 := Lib.hid hC
  have hs5 := HG5.out.size
  clear hC hg HC4
  cases bo with
  | false =>
    have hZ := HZ_5.out
    obtain ⟨c0, c1, c2⟩ := box3 HP_5.out
    obtain ⟨z0, z1, z2⟩ := box3 hZ
    have f0 := hZ.frozen 0
    have f1 := hZ.frozen 1
    have f2 := hZ.frozen 2
    have hbz : Below w.heap.size w5 (World.setCell (World.setCell (World.setCell w5 ⟨w.heap.size, 0, none⟩ (.int .i64 ox)) ⟨w.heap.size, 1, none⟩ (.int .i64 oy)) ⟨w.heap.size, 2, none⟩ (.int .i64 ot)) := by (repeat (first | with_reducible exact Below.refl _ _ | with_reducible assumption | with_reducible refine Below.setCell ?_ (by simp <;> omega) _ | with_reducible refine Below.alloc ?_ (by first | omega | (simp <;> omega)) _ | with_reducible refine Below.drew ?_ | with_reducible refine below_drewN ?_ _))
    have HCz := Lib.hid (HC5.out.belowB hbz hgl)
    have HGz := Lib.hid (only_belowB HG5.out hbz (Nat.le_refl _))
    have hqn : ¬ w.heap.size = w3.heap.size := by omega
    have hqn2 : ¬ w3.heap.size = w.heap.size := by omega
    have hR : Blk (World.setCell (World.setCell (World.setCell w5 ⟨w.heap.size, 0, none⟩ (.int .i64 ox)) ⟨w.heap.size, 1, none⟩ (.int .i64 oy)) ⟨w.heap.size, 2, none⟩ (.int .i64 ot)) w.heap.size 39 #[.int .i64 ox, .int .i64 oy, .int .i64 ot] := (((hZ.set_ 0 _).set_ 1 _).set_ 2 _)
    have HRR := Lib.hid (box3 hR)
    clear hbz hZ hR
    go_wp2
    obtain ⟨r0, r1, r2⟩ := HRR.out
    exact bodyPost_ret (v := .agg #[.int .i64 ox, .int .i64 oy, .int .i64 ot]) (by simp [results, Try.results95, go_sem, r0, r1, r2]) rfl ⟨⟨ox, oy, ot⟩, rfl, HCz.out.more (by omega), HGz.out⟩
  | true =>
    go_wp2_with fail
    refine (among_lit g _ [-1, 1000] _ 2 _ _ (by rfl) (by rfl) (by simp) HC5.out (by omega) (by omega) (by omega)).mono ?_
    rintro e w6 ⟨nx, rfl, _, hC, hg⟩
    have HG6 := Lib.hid (only_trans HG5.out hg)
    have HZ_6 := Lib.hid (HZ_5.out.grown hg (by intro e9; injection e9; omega))
    clear HZ_5
    have HP_6 := Lib.hid (HP_5.out.grown hg (by intro e9; injection e9; omega))
    clear HP_5
    have HC6 := Lib.hid hC
    have hs6 := HG6.out.size
    clear hC hg HC5
    go_wp2_with fail
    refine (among_lit g _ [0, 1000001] _ 2 _ _ (by rfl) (by rfl) (by simp) HC6.out (by omega) (by omega) (by omega)).mono ?_
    rintro e w7 ⟨nt, rfl, _, hC, hg⟩
    have HG7 := Lib.hid (only_trans HG6.out hg)
    have HZ_7 := Lib.hid (HZ_6.out.grown hg (by intro e9; injection e9; omega))
    clear HZ_6
    have HP_7 := Lib.hid (HP_6.out.grown hg (by intro e9; injection e9; omega))
    clear HP_6
    have HC7 := Lib.hid hC
    have hs7 := HG7.out.size
    clear hC hg HC6
    have hP9 := HP_7.out
    obtain ⟨p0, p1, p2⟩ := box3 hP9
    have g0 := hP9.frozen 0
    have g1 := hP9.frozen 1
    have g2 := hP9.frozen 2
    have hb9 : Below w.heap.size w7 (World.setCell (World.setCell (World.setCell w7 ⟨w3.heap.size, 0, none⟩ (.int .i64 nx)) ⟨w3.heap.size, 1, none⟩ (.int .i64 0)) ⟨w3.heap.size, 2, none⟩ (.int .i64 nt)) := by (repeat (first | with_reducible exact Below.refl _ _ | with_reducible assumption | with_reducible refine Below.setCell ?_ (by simp <;> omega) _ | with_reducible refine Below.alloc ?_ (by first | omega | (simp <;> omega)) _ | with_reducible refine Below.drew ?_ | with_reducible refine below_drewN ?_ _))
    have hz9 : Blk (World.setCell (World.setCell (World.setCell w7 ⟨w3.heap.size, 0, none⟩ (.int .i64 nx)) ⟨w3.heap.size, 1, none⟩ (.int .i64 0)) ⟨w3.heap.size, 2, none⟩ (.int .i64 nt)) w.heap.size 39 #[.int .i64 0, .int .i64 0, .int .i64 0] := ((HZ_7.out.far (p := ⟨w3.heap.size, 0, none⟩) (by show w.heap.size ≠ w3.heap.size; omega) _).far (p := ⟨w3.heap.size, 1, none⟩) (by show w.heap.size ≠ w3.heap.size; omega) _).far (p := ⟨w3.heap.size, 2, none⟩) (by show w.heap.size ≠ w3.heap.size; omega) _
    have hp9 : Blk (World.setCell (World.setCell (World.setCell w7 ⟨w3.heap.size, 0, none⟩ (.int .i64 nx)) ⟨w3.heap.size, 1, none⟩ (.int .i64 0)) ⟨w3.heap.size, 2, none⟩ (.int .i64 nt)) w3.heap.size 39 #[.int .i64 nx, .int .i64 0, .int .i64 nt] := (((hP9.set_ 0 _).set_ 1 _).set_ 2 _)
    have HP9 := Lib.hid hp9
    have HZ9 := Lib.hid hz9
    have HC9 := Lib.hid (HC7.out.belowB hb9 hgl)
    have HG9 := Lib.hid (only_belowB HG7.out hb9 (Nat.le_refl _))
    clear hP9 hb9 hz9 hp9
    have hZ := HZ9.out
    obtain ⟨c0, c1, c2⟩ := box3 HP9.out
    obtain ⟨z0, z1, z2⟩ := box3 hZ
    have f0 := hZ.frozen 0
    have f1 := hZ.frozen 1
    have f2 := hZ.frozen 2
    have hbz : Below w.heap.size (World.setCell (World.setCell (World.setCell w7 ⟨w3.heap.size, 0, none⟩ (.int .i64 nx)) ⟨w3.heap.size, 1, none⟩ (.int .i64 0)) ⟨w3.heap.size, 2, none⟩ (.int .i64 nt)) (World.setCell (World.setCell (World.setCell (World.setCell (World.setCell (World.setCell w7 ⟨w3.heap.size, 0, none⟩ (.int .i64 nx)) ⟨w3.heap.size, 1, none⟩ (.int .i64 0)) ⟨w3.heap.size, 2, none⟩ (.int .i64 nt)) ⟨w.heap.size, 0, none⟩ (.int .i64 nx)) ⟨w.heap.size, 1, none⟩ (.int .i64 0)) ⟨w.heap.size, 2, none⟩ (.int .i64 nt)) := by (repeat (first | with_reducible exact Below.refl _ _ | with_reducible assumption | with_reducible refine Below.setCell ?_ (by simp <;> omega) _ | with_reducible refine Below.alloc ?_ (by first | omega | (simp <;> omega)) _ | with_reducible refine Below.drew ?_ | with_reducible refine below_drewN ?_ _))
    have HCz := Lib.hid (HC9.out.belowB hbz hgl)
    have HGz := Lib.hid (only_belowB HG9.out hbz (Nat.le_refl _))
    have hqn : ¬ w.heap.size = w3.heap.size := by omega
    have hqn2 : ¬ w3.heap.size = w.heap.size := by omega
    have hR : Blk (World.setCell (World.setCell (World.setCell (World.setCell (World.setCell (World.setCell w7 ⟨w3.heap.size, 0, none⟩ (.int .i64 nx)) ⟨w3.heap.size, 1, none⟩ (.int .i64 0)) ⟨w3.heap.size, 2, none⟩ (.int .i64 nt)) ⟨w.heap.size, 0, none⟩ (.int .i64 nx)) ⟨w.heap.size, 1, none⟩ (.int .i64 0)) ⟨w.heap.size, 2, none⟩ (.int .i64 nt)) w.heap.size 39 #[.int .i64 nx, .int .i64 0, .int .i64 nt] := (((hZ.set_ 0 _).set_ 1 _).set_ 2 _)
    have HRR := Lib.hid (box3 hR)
    clear hbz hZ hR
    go_wp2
    obtain ⟨r0, r1, r2⟩ := HRR.out
    exact bodyPost_ret (v := .agg #[.int .i64 nx, .int .i64 0, .int .i64 nt]) (by simp [results, Try.results95, go_sem, r0, r1, r2]) rfl ⟨⟨nx, 0, nt⟩, rfl, HCz.out.more (by omega), HGz.out⟩

end Go.Proofs.Ytdadcbcanjmoeaa
