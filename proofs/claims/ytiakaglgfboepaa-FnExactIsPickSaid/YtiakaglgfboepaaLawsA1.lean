/-
  The law of IsPick: walked. (Printed by laws_A.py.)
-/
import Derived.Test.YtiakaglgfboepaaIsPick
namespace Go.Proofs.Ytiakaglgfboepaa
set_option linter.unusedVariables false
open Go.RowKit

set_option maxRecDepth 100000 in
set_option maxHeartbeats 2000000 in
theorem law_IsPick (x0 : Pick) (w : World)  :
    Calls Try.prog 3 #[.agg #[.int .i64 x0.id, .int .i64 x0.station, .int .i64 x0.wave, .int .i64 x0.tick, .int .i64 x0.err, .int .i64 x0.by_, .int .i64 x0.after_]] w fun e w' => e = .returned (.bool true) ∧ Below w.heap.size w w' := by
  have hB0 : Below w.heap.size w (w.alloc (.cells #[.int .i64 x0.id, .int .i64 x0.station, .int .i64 x0.wave, .int .i64 x0.tick, .int .i64 x0.err, .int .i64 x0.by_, .int .i64 x0.after_] 23)) := by (repeat (first | with_reducible exact Below.refl _ _ | with_reducible assumption | with_reducible refine Below.setCell ?_ (by simp <;> omega) _ | with_reducible refine Below.alloc ?_ (by simp <;> omega) _ | with_reducible refine Below.drew ?_ | with_reducible refine below_drewN ?_ _))
  have HX0 : Hid (Blk (w.alloc (.cells #[.int .i64 x0.id, .int .i64 x0.station, .int .i64 x0.wave, .int .i64 x0.tick, .int .i64 x0.err, .int .i64 x0.by_, .int .i64 x0.after_] 23)) w.heap.size 23 #[.int .i64 x0.id, .int .i64 x0.station, .int .i64 x0.wave, .int .i64 x0.tick, .int .i64 x0.err, .int .i64 x0.by_, .int .i64 x0.after_]) := by first | exact Blk.new w _ #[.int .i64 x0.id, .int .i64 x0.station, .int .i64 x0.wave, .int .i64 x0.tick, .int .i64 x0.err, .int .i64 x0.by_, .int .i64 x0.after_] | (have hq := Blk.new w _ #[.int .i64 x0.id, .int .i64 x0.station, .int .i64 x0.wave, .int .i64 x0.tick, .int .i64 x0.err, .int .i64 x0.by_, .int .i64 x0.after_]; simp at hq; exact hq)
  go_enter Try.func3, Try.ntmps3
  obtain ⟨z0_0_0, z0_0_1, z0_0_2, z0_0_3, z0_0_4, z0_0_5, z0_0_6⟩ := box7 HX0.out
  go_wp2_with fail
  refine (toP_any _ _ _ _ _ _ _ _).mono ?_
  rintro e w1 ⟨rfl, hb1⟩
  have hs1 := hb1.size
  have hB1 := hB0.trans (hb1.mono hB0.size)
  have HX0_1 := Lib.hid (HX0.out.after hb1)
  clear z0_0_0 z0_0_1 z0_0_2 z0_0_3 z0_0_4 z0_0_5 z0_0_6
  go_wp2_with fail
  refine (sIsPick_any x0 _).mono ?_
  rintro e w2 ⟨rfl, hb2⟩
  have hs2 := hb2.size
  have hB2 := hB1.trans (hb2.mono hB1.size)
  have HX0_2 := Lib.hid (HX0_1.out.after hb2)
  obtain ⟨z0_2_0, z0_2_1, z0_2_2, z0_2_3, z0_2_4, z0_2_5, z0_2_6⟩ := box7 HX0_2.out
  go_wp2_with fail
  refine (toP_any _ _ _ _ _ _ _ _).mono ?_
  rintro e w3 ⟨rfl, hb3⟩
  have hs3 := hb3.size
  have hB3 := hB2.trans (hb3.mono hB2.size)
  have HX0_3 := Lib.hid (HX0_2.out.after hb3)
  clear z0_2_0 z0_2_1 z0_2_2 z0_2_3 z0_2_4 z0_2_5 z0_2_6
  go_wp2_with fail
  refine (IsPick_any x0 _).mono ?_
  rintro e w4 ⟨rfl, hb4⟩
  have hs4 := hb4.size
  have hB4 := hB3.trans (hb4.mono hB3.size)
  have HX0_4 := Lib.hid (HX0_3.out.after hb4)
  go_wp2
  go_ret
  exact ⟨rfl, hB4⟩

end Go.Proofs.Ytiakaglgfboepaa
