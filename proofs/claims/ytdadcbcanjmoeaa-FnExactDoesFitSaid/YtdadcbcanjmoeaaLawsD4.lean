/-
  The law of DoesFit: walked. (Printed by laws_D4.py.)
-/
import Derived.Test.YtdadcbcanjmoeaaFits
import Derived.Deep.RegionHeld3
namespace Go.Proofs.Ytdadcbcanjmoeaa
set_option linter.unusedVariables false
open Go.RowKit

set_option maxRecDepth 100000 in
set_option maxHeartbeats 2000000 in
theorem law_DoesFit (x0 : Arrival) (x1 : Origin) (w : World)  :
    Calls Try.prog 5 #[.agg #[.int .i64 x0.id, .int .i64 x0.x, .int .i64 x0.y, .int .i64 x0.tick, .int .i64 x0.err], .agg #[.int .i64 x1.x, .int .i64 x1.y, .int .i64 x1.tick]] w fun e w' => e = .returned (.bool true) ∧ Below w.heap.size w w' := by
  have hB0 : Below w.heap.size w ((w.alloc (.cells #[.int .i64 x0.id, .int .i64 x0.x, .int .i64 x0.y, .int .i64 x0.tick, .int .i64 x0.err] 32)).alloc (.cells #[.int .i64 x1.x, .int .i64 x1.y, .int .i64 x1.tick] 34)) := by (repeat (first | with_reducible exact Below.refl _ _ | with_reducible assumption | with_reducible refine Below.setCell ?_ (by simp <;> omega) _ | with_reducible refine Below.alloc ?_ (by simp <;> omega) _ | with_reducible refine Below.drew ?_ | with_reducible refine below_drewN ?_ _))
  have HX0 : Hid (Blk ((w.alloc (.cells #[.int .i64 x0.id, .int .i64 x0.x, .int .i64 x0.y, .int .i64 x0.tick, .int .i64 x0.err] 32)).alloc (.cells #[.int .i64 x1.x, .int .i64 x1.y, .int .i64 x1.tick] 34)) w.heap.size 32 #[.int .i64 x0.id, .int .i64 x0.x, .int .i64 x0.y, .int .i64 x0.tick, .int .i64 x0.err]) := by first | exact Blk.alloc (Blk.new w 32 #[.int .i64 x0.id, .int .i64 x0.x, .int .i64 x0.y, .int .i64 x0.tick, .int .i64 x0.err]) _ | (have hq := Blk.alloc (Blk.new w 32 #[.int .i64 x0.id, .int .i64 x0.x, .int .i64 x0.y, .int .i64 x0.tick, .int .i64 x0.err]) _; simp at hq; exact hq)
  have HX1 : Hid (Blk ((w.alloc (.cells #[.int .i64 x0.id, .int .i64 x0.x, .int .i64 x0.y, .int .i64 x0.tick, .int .i64 x0.err] 32)).alloc (.cells #[.int .i64 x1.x, .int .i64 x1.y, .int .i64 x1.tick] 34)) (w.heap.size + 1) 34 #[.int .i64 x1.x, .int .i64 x1.y, .int .i64 x1.tick]) := by first | exact Blk.new (w.alloc (.cells #[.int .i64 x0.id, .int .i64 x0.x, .int .i64 x0.y, .int .i64 x0.tick, .int .i64 x0.err] 32)) 34 #[.int .i64 x1.x, .int .i64 x1.y, .int .i64 x1.tick] | (have hq := Blk.new (w.alloc (.cells #[.int .i64 x0.id, .int .i64 x0.x, .int .i64 x0.y, .int .i64 x0.tick, .int .i64 x0.err] 32)) 34 #[.int .i64 x1.x, .int .i64 x1.y, .int .i64 x1.tick]; simp at hq; exact hq)
  go_enter Try.func5, Try.ntmps5
  go_wp2_with fail
  have htok0 : True := trivial
  go_region_held3 (fun w' => w'.cell? ⟨w.heap.size, 0, none⟩ = some (.int .i64 x0.id) ∧ w'.cell? ⟨w.heap.size, 1, none⟩ = some (.int .i64 x0.x) ∧ w'.cell? ⟨w.heap.size, 2, none⟩ = some (.int .i64 x0.y) ∧ w'.cell? ⟨w.heap.size, 3, none⟩ = some (.int .i64 x0.tick) ∧ w'.cell? ⟨w.heap.size, 4, none⟩ = some (.int .i64 x0.err) ∧ w'.cell? ⟨(w.heap.size + 1), 0, none⟩ = some (.int .i64 x1.x) ∧ w'.cell? ⟨(w.heap.size + 1), 1, none⟩ = some (.int .i64 x1.y) ∧ w'.cell? ⟨(w.heap.size + 1), 2, none⟩ = some (.int .i64 x1.tick)) (first | (have hq1 := box5 HX0_3.out; have hq2 := box3 HX1_3.out; exact ⟨hq1.1, hq1.2.1, hq1.2.2.1, hq1.2.2.2.1, hq1.2.2.2.2, hq2.1, hq2.2.1, hq2.2.2⟩) | (have hq1 := box5 HX0_2.out; have hq2 := box3 HX1_2.out; exact ⟨hq1.1, hq1.2.1, hq1.2.2.1, hq1.2.2.2.1, hq1.2.2.2.2, hq2.1, hq2.2.1, hq2.2.2⟩) | (have hq1 := box5 HX0_1.out; have hq2 := box3 HX1_1.out; exact ⟨hq1.1, hq1.2.1, hq1.2.2.1, hq1.2.2.2.1, hq1.2.2.2.2, hq2.1, hq2.2.1, hq2.2.2⟩) | (have hq1 := box5 HX0.out; have hq2 := box3 HX1.out; exact ⟨hq1.1, hq1.2.1, hq1.2.2.1, hq1.2.2.2.1, hq1.2.2.2.2, hq2.1, hq2.2.1, hq2.2.2⟩)) (first | (go_at_call 21; have _t := htok0; refine (toA_any x0.id x0.x x0.y x0.tick x0.err _).mono ?_; rintro e w1 ⟨rfl, hb1⟩; have HX0_1 := Lib.hid (HX0.out.drew.after hb1); have HX1_1 := Lib.hid (HX1.out.drew.after hb1)) | (go_at_call 22; have _t := htok0; refine (toO_any x1.x x1.y x1.tick _).mono ?_; rintro e w2 ⟨rfl, hb2⟩; have HX0_2 := Lib.hid (HX0_1.out.after hb2); have HX1_2 := Lib.hid (HX1_1.out.after hb2)) | (go_at_call 20; refine (sDoesFit_any x0 x1 _).mono ?_; rintro e w3 ⟨rfl, hb3⟩; have HX0_3 := Lib.hid (HX0_2.out.after hb3); have HX1_3 := Lib.hid (HX1_2.out.after hb3)))
  have hs1 := hb1.size
  have hB1 := hB0.drew.trans (hb1.mono hB0.size)
  have hs2 := hb2.size
  have hB2 := hB1.trans (hb2.mono hB1.size)
  have hs3 := hb3.size
  have hB3 := hB2.trans (hb3.mono hB2.size)
  try dsimp only
  go_wp2_with fail
  have htok3 : True := trivial
  go_region_held3 (fun w' => w'.cell? ⟨w.heap.size, 0, none⟩ = some (.int .i64 x0.id) ∧ w'.cell? ⟨w.heap.size, 1, none⟩ = some (.int .i64 x0.x) ∧ w'.cell? ⟨w.heap.size, 2, none⟩ = some (.int .i64 x0.y) ∧ w'.cell? ⟨w.heap.size, 3, none⟩ = some (.int .i64 x0.tick) ∧ w'.cell? ⟨w.heap.size, 4, none⟩ = some (.int .i64 x0.err) ∧ w'.cell? ⟨(w.heap.size + 1), 0, none⟩ = some (.int .i64 x1.x) ∧ w'.cell? ⟨(w.heap.size + 1), 1, none⟩ = some (.int .i64 x1.y) ∧ w'.cell? ⟨(w.heap.size + 1), 2, none⟩ = some (.int .i64 x1.tick)) (first | (have hq1 := box5 HX0_6.out; have hq2 := box3 HX1_6.out; exact ⟨hq1.1, hq1.2.1, hq1.2.2.1, hq1.2.2.2.1, hq1.2.2.2.2, hq2.1, hq2.2.1, hq2.2.2⟩) | (have hq1 := box5 HX0_5.out; have hq2 := box3 HX1_5.out; exact ⟨hq1.1, hq1.2.1, hq1.2.2.1, hq1.2.2.2.1, hq1.2.2.2.2, hq2.1, hq2.2.1, hq2.2.2⟩) | (have hq1 := box5 HX0_4.out; have hq2 := box3 HX1_4.out; exact ⟨hq1.1, hq1.2.1, hq1.2.2.1, hq1.2.2.2.1, hq1.2.2.2.2, hq2.1, hq2.2.1, hq2.2.2⟩) | (have hq1 := box5 HX0_3.out; have hq2 := box3 HX1_3.out; exact ⟨hq1.1, hq1.2.1, hq1.2.2.1, hq1.2.2.2.1, hq1.2.2.2.2, hq2.1, hq2.2.1, hq2.2.2⟩)) (first | (go_at_call 21; have _t := htok3; refine (toA_any x0.id x0.x x0.y x0.tick x0.err _).mono ?_; rintro e w4 ⟨rfl, hb4⟩; have HX0_4 := Lib.hid (HX0_3.out.drew.after hb4); have HX1_4 := Lib.hid (HX1_3.out.drew.after hb4)) | (go_at_call 22; have _t := htok3; refine (toO_any x1.x x1.y x1.tick _).mono ?_; rintro e w5 ⟨rfl, hb5⟩; have HX0_5 := Lib.hid (HX0_4.out.after hb5); have HX1_5 := Lib.hid (HX1_4.out.after hb5)) | (go_at_call 23; refine (DoesFit_any x0 x1 _).mono ?_; rintro e w6 ⟨rfl, hb6⟩; have HX0_6 := Lib.hid (HX0_5.out.after hb6); have HX1_6 := Lib.hid (HX1_5.out.after hb6)))
  have hs4 := hb4.size
  have hB4 := hB3.drew.trans (hb4.mono hB3.size)
  have hs5 := hb5.size
  have hB5 := hB4.trans (hb5.mono hB4.size)
  have hs6 := hb6.size
  have hB6 := hB5.trans (hb6.mono hB5.size)
  go_wp2
  go_ret
  exact ⟨rfl, hB6⟩

end Go.Proofs.Ytdadcbcanjmoeaa
