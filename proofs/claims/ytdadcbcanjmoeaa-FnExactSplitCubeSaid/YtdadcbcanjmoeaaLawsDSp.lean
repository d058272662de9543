/-
  The law of SplitCube: walked. (Printed by laws_D10.py.)
-/
import Derived.Test.YtdadcbcanjmoeaaSplS
import Derived.Deep.RegionHeld3
namespace Go.Proofs.Ytdadcbcanjmoeaa
set_option linter.unusedVariables false
open Go.RowKit

set_option maxRecDepth 100000 in
set_option maxHeartbeats 2000000 in
theorem law_SplitCube (x0 : Cube) (w : World)  :
    Calls Try.prog 13 #[.agg #[.int .i64 x0.west, .int .i64 x0.south, .int .i64 x0.side, .int .i64 x0.from_, .int .i64 x0.to_]] w fun e w' => e = .returned (.bool true) ∧ Below w.heap.size w w' := by
  have hB0 : Below w.heap.size w (w.alloc (.cells #[.int .i64 x0.west, .int .i64 x0.south, .int .i64 x0.side, .int .i64 x0.from_, .int .i64 x0.to_] 23)) := by (repeat (first | with_reducible exact Below.refl _ _ | with_reducible assumption | with_reducible refine Below.setCell ?_ (by simp <;> omega) _ | with_reducible refine Below.alloc ?_ (by first | omega | (simp <;> omega)) _ | with_reducible refine Below.drew ?_ | with_reducible refine below_drewN ?_ _))
  have HX0 : Hid (Blk (w.alloc (.cells #[.int .i64 x0.west, .int .i64 x0.south, .int .i64 x0.side, .int .i64 x0.from_, .int .i64 x0.to_] 23)) w.heap.size 23 #[.int .i64 x0.west, .int .i64 x0.south, .int .i64 x0.side, .int .i64 x0.from_, .int .i64 x0.to_]) := by first | exact Blk.new w 23 #[.int .i64 x0.west, .int .i64 x0.south, .int .i64 x0.side, .int .i64 x0.from_, .int .i64 x0.to_] | (have hq := Blk.new w 23 #[.int .i64 x0.west, .int .i64 x0.south, .int .i64 x0.side, .int .i64 x0.from_, .int .i64 x0.to_]; simp at hq; exact hq)
  go_enter Try.func13, Try.ntmps13
  obtain ⟨z0_0_0, z0_0_1, z0_0_2, z0_0_3, z0_0_4⟩ := box5 HX0.out
  go_wp2_with fail
  refine (toC_any _ _ _ _ _ _).mono ?_
  rintro e w1 ⟨rfl, hb1⟩
  have hs1 := hb1.size
  have hB1 := hB0.trans (hb1.mono hB0.size)
  have hw1 := hB1.size
  have HX0_1 := Lib.hid (HX0.out.after hb1)
  clear z0_0_0 z0_0_1 z0_0_2 z0_0_3 z0_0_4
  go_wp2_with fail
  refine (sSplitCube_any x0 _).mono ?_
  rintro e w2 ⟨Aw, cw, rfl, _, ow, hb2⟩
  have hs2 := hb2.size
  have hB2 := hB1.trans (hb2.mono hB1.size)
  have hw2 := hB2.size
  have HX0_2 := Lib.hid (HX0_1.out.after hb2)
  have tow := ow.lt
  obtain ⟨z0_2_0, z0_2_1, z0_2_2, z0_2_3, z0_2_4⟩ := box5 HX0_2.out
  go_wp2_with fail
  refine (toC_any _ _ _ _ _ _).mono ?_
  rintro e w3 ⟨rfl, hb3⟩
  have hs3 := hb3.size
  have hB3 := hB2.trans (hb3.mono hB2.size)
  have hw3 := hB3.size
  have ow_3 := ow.keep hb3
  clear ow
  have HX0_3 := Lib.hid (HX0_2.out.after hb3)
  clear z0_2_0 z0_2_1 z0_2_2 z0_2_3 z0_2_4
  go_wp2_with fail
  refine (SplitCube_any x0 _).mono ?_
  rintro e w4 ⟨Ag, cg, rfl, _, og, hb4⟩
  have hs4 := hb4.size
  have hB4 := hB3.trans (hb4.mono hB3.size)
  have hw4 := hB4.size
  have ow_4 := ow_3.keep hb4
  clear ow_3
  have HX0_4 := Lib.hid (HX0_3.out.after hb4)
  have tog := og.lt
  go_wp2_with fail
  refine (eqCS_any Ag Aw cg cw (spL x0) (spL x0) _ (Own.rd' encC_len og) (Own.rd' encC_len ow_4) spL_len).mono ?_
  rintro e w5 ⟨rfl, hb5⟩
  have hs5 := hb5.size
  have hB5 := hB4.trans (hb5.mono hB4.size)
  have hw5 := hB5.size
  have ow_5 := ow_4.keep hb5
  clear ow_4
  have og_5 := og.keep hb5
  clear og
  have HX0_5 := Lib.hid (HX0_4.out.after hb5)
  rw [eqsC_iff.2 rfl]
  go_wp2_with fail
  refine (markCS_any _ _ _ _ _ _ _ og_5 spL_len (by omega) (by omega)).mono ?_
  rintro e w6 ⟨rfl, pog, hg6⟩
  have hs6 := hg6.size
  have hB6 := hB5.grown hg6 hB5.size (fun q hq => by have := (tog q hq).1; omega)
  have ow_6 := ow_5.grown hg6 (fun q hq hv => by have h1 := tog q hq; have h2 := tow q hv; omega)
  clear ow_5
  clear og_5
  have HX0_6 := Lib.hid (HX0_5.out.grown hg6 (fun hq => by have := (tog _ hq.symm).1; simp at *; omega))
  go_wp2_with fail
  refine (same_below (heldCS_any Ag (spL x0).length cg 1 _ (Own.rd' encC_len pog) spL_len (by omega) (by omega))).mono ?_
  rintro e w7 ⟨rfl, hb7⟩
  have hs7 := hb7.size
  have hB7 := hB6.trans (hb7.mono hB6.size)
  have hw7 := hB7.size
  have ow_7 := ow_6.keep hb7
  clear ow_6
  have og_7 := pog.keep hb7
  clear pog
  have HX0_7 := Lib.hid (HX0_6.out.after hb7)
  obtain ⟨z0_7_0, z0_7_1, z0_7_2, z0_7_3, z0_7_4⟩ := box5 HX0_7.out
  go_wp2_with fail
  refine (toC_any _ _ _ _ _ _).mono ?_
  rintro e w8 ⟨rfl, hb8⟩
  have hs8 := hb8.size
  have hB8 := hB7.trans (hb8.mono hB7.size)
  have hw8 := hB8.size
  have ow_8 := ow_7.keep hb8
  clear ow_7
  have og_8 := og_7.keep hb8
  clear og_7
  have HX0_8 := Lib.hid (HX0_7.out.after hb8)
  clear z0_7_0 z0_7_1 z0_7_2 z0_7_3 z0_7_4
  go_wp2_with fail
  refine (SplitCube_any x0 _).mono ?_
  rintro e w9 ⟨Ah, ch, rfl, _, oh, hb9⟩
  have hs9 := hb9.size
  have hB9 := hB8.trans (hb9.mono hB8.size)
  have hw9 := hB9.size
  have ow_9 := ow_8.keep hb9
  clear ow_8
  have og_9 := og_8.keep hb9
  clear og_8
  have HX0_9 := Lib.hid (HX0_8.out.after hb9)
  have toh := oh.lt
  go_wp2_with fail
  refine (eqCS_any Ah Aw ch cw (spL x0) (spL x0) _ (Own.rd' encC_len oh) (Own.rd' encC_len ow_9) spL_len).mono ?_
  rintro e w10 ⟨rfl, hb10⟩
  have hs10 := hb10.size
  have hB10 := hB9.trans (hb10.mono hB9.size)
  have hw10 := hB10.size
  have ow_10 := ow_9.keep hb10
  clear ow_9
  have og_10 := og_9.keep hb10
  clear og_9
  have oh_10 := oh.keep hb10
  clear oh
  have HX0_10 := Lib.hid (HX0_9.out.after hb10)
  rw [eqsC_iff.2 rfl]
  go_wp2_with fail
  refine (same_below (heldCS_any Ag (spL x0).length cg 1 _ (Own.rd' encC_len og_10) spL_len (by omega) (by omega))).mono ?_
  rintro e w11 ⟨rfl, hb11⟩
  have hs11 := hb11.size
  have hB11 := hB10.trans (hb11.mono hB10.size)
  have hw11 := hB11.size
  have ow_11 := ow_10.keep hb11
  clear ow_10
  have og_11 := og_10.keep hb11
  clear og_10
  have oh_11 := oh_10.keep hb11
  clear oh_10
  have HX0_11 := Lib.hid (HX0_10.out.after hb11)
  go_wp2
  go_ret
  exact ⟨rfl, hB11⟩

end Go.Proofs.Ytdadcbcanjmoeaa
