/-
  The law of TicksThatFit: walked. (Printed by laws_D4.py.)
-/
import Derived.Test.YtdadcbcanjmoeaaTicksFit
import Derived.Deep.RegionHeld3
namespace Go.Proofs.Ytdadcbcanjmoeaa
set_option linter.unusedVariables false
open Go.RowKit

set_option maxRecDepth 100000 in
set_option maxHeartbeats 2000000 in
theorem law_TicksThatFit (x0 : Arrival) (a1 : Int) (a2 : Int) (w : World) (wf1 : (Lit.int .i64 a1).wf = true) (wf2 : (Lit.int .i64 a2).wf = true) :
    Calls Try.prog 7 #[.agg #[.int .i64 x0.id, .int .i64 x0.x, .int .i64 x0.y, .int .i64 x0.tick, .int .i64 x0.err], .int .i64 a1, .int .i64 a2] w fun e w' => e = .returned (.bool true) ∧ Below w.heap.size w w' := by
  have hB0 : Below w.heap.size w (w.alloc (.cells #[.int .i64 x0.id, .int .i64 x0.x, .int .i64 x0.y, .int .i64 x0.tick, .int .i64 x0.err] 32)) := by (repeat (first | with_reducible exact Below.refl _ _ | with_reducible assumption | with_reducible refine Below.setCell ?_ (by simp <;> omega) _ | with_reducible refine Below.alloc ?_ (by simp <;> omega) _ | with_reducible refine Below.drew ?_ | with_reducible refine below_drewN ?_ _))
  have HX0 : Hid (Blk (w.alloc (.cells #[.int .i64 x0.id, .int .i64 x0.x, .int .i64 x0.y, .int .i64 x0.tick, .int .i64 x0.err] 32)) w.heap.size 32 #[.int .i64 x0.id, .int .i64 x0.x, .int .i64 x0.y, .int .i64 x0.tick, .int .i64 x0.err]) := by first | exact Blk.new w 32 #[.int .i64 x0.id, .int .i64 x0.x, .int .i64 x0.y, .int .i64 x0.tick, .int .i64 x0.err] | (have hq := Blk.new w 32 #[.int .i64 x0.id, .int .i64 x0.x, .int .i64 x0.y, .int .i64 x0.tick, .int .i64 x0.err]; simp at hq; exact hq)
  go_enter Try.func7, Try.ntmps7
  obtain ⟨z0_0_0, z0_0_1, z0_0_2, z0_0_3, z0_0_4⟩ := box5 HX0.out
  go_wp2_with fail
  refine (toA_any _ _ _ _ _ _).mono ?_
  rintro e w1 ⟨rfl, hb1⟩
  have hs1 := hb1.size
  have hB1 := hB0.trans (hb1.mono hB0.size)
  have HX0_1 := Lib.hid (HX0.out.after hb1)
  clear z0_0_0 z0_0_1 z0_0_2 z0_0_3 z0_0_4
  go_wp2_with fail
  refine (sTicksThatFit_any x0 a1 a2 _).mono ?_
  rintro e w2 ⟨rfl, hb2⟩
  have hs2 := hb2.size
  have hB2 := hB1.trans (hb2.mono hB1.size)
  have HX0_2 := Lib.hid (HX0_1.out.after hb2)
  obtain ⟨z0_2_0, z0_2_1, z0_2_2, z0_2_3, z0_2_4⟩ := box5 HX0_2.out
  go_wp2_with fail
  refine (toA_any _ _ _ _ _ _).mono ?_
  rintro e w3 ⟨rfl, hb3⟩
  have hs3 := hb3.size
  have hB3 := hB2.trans (hb3.mono hB2.size)
  have HX0_3 := Lib.hid (HX0_2.out.after hb3)
  clear z0_2_0 z0_2_1 z0_2_2 z0_2_3 z0_2_4
  go_wp2_with fail
  refine (TicksThatFit_any x0 a1 a2 _).mono ?_
  rintro e w4 ⟨rfl, hb4⟩
  have hs4 := hb4.size
  have hB4 := hB3.trans (hb4.mono hB3.size)
  have HX0_4 := Lib.hid (HX0_3.out.after hb4)
  go_wp2
  go_ret
  exact ⟨rfl, hB4⟩

end Go.Proofs.Ytdadcbcanjmoeaa
