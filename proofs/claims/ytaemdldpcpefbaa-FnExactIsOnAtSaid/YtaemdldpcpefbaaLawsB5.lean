/-
  The law of IsOnAt: walked. (Printed by laws_B2.py.)
-/
import Derived.Test.YtaemdldpcpefbaaOnAt
import Derived.Deep.RegionHeld3
namespace Go.Proofs.Ytaemdldpcpefbaa
set_option linter.unusedVariables false
open Go.RowKit

set_option maxRecDepth 100000 in
set_option maxHeartbeats 2000000 in
theorem law_IsOnAt (A0 : Option Addr) (c0 : Nat) (l0 : List Int) (x1 : Setting) (a2 : Int) (w : World) (h0 : Rd encI 1 w w.heap.size A0 l0) (m0 : l0.length ≤ maxLen) (wf0 : ∀ n ∈ l0, (Lit.int .i64 n).wf = true) (wf2 : (Lit.int .i64 a2).wf = true) :
    Calls Try.prog 8 #[.slice A0 l0.length c0, .agg #[.int .i64 x1.short, .int .i64 x1.long, .int .i64 x1.on, .int .i64 x1.off], .int .i64 a2] w fun e w' => e = .returned (.bool true) ∧ Below w.heap.size w w' := by
  unfold maxLen at m0
  by_cases hl0 : l0.length ≤ 1048576
  rotate_left
  · go_enter Try.func8, Try.ntmps8
    go_wp2
    go_ret
    refine ⟨rfl, ?_⟩
    (repeat (first | with_reducible exact Below.refl _ _ | with_reducible assumption | with_reducible refine Below.setCell ?_ (by simp <;> omega) _ | with_reducible refine Below.alloc ?_ (by first | omega | (simp <;> omega)) _ | with_reducible refine Below.drew ?_ | with_reducible refine below_drewN ?_ _))
  · have hB0 : Below w.heap.size w (w.alloc (.cells #[.int .i64 x1.short, .int .i64 x1.long, .int .i64 x1.on, .int .i64 x1.off] 23)) := by (repeat (first | with_reducible exact Below.refl _ _ | with_reducible assumption | with_reducible refine Below.setCell ?_ (by simp <;> omega) _ | with_reducible refine Below.alloc ?_ (by first | omega | (simp <;> omega)) _ | with_reducible refine Below.drew ?_ | with_reducible refine below_drewN ?_ _))
    have HX1 : Hid (Blk (w.alloc (.cells #[.int .i64 x1.short, .int .i64 x1.long, .int .i64 x1.on, .int .i64 x1.off] 23)) w.heap.size 23 #[.int .i64 x1.short, .int .i64 x1.long, .int .i64 x1.on, .int .i64 x1.off]) := by first | exact Blk.new w 23 #[.int .i64 x1.short, .int .i64 x1.long, .int .i64 x1.on, .int .i64 x1.off] | (have hq := Blk.new w 23 #[.int .i64 x1.short, .int .i64 x1.long, .int .i64 x1.on, .int .i64 x1.off]; simp at hq; exact hq)
    have hn0 : l0.length ≤ 1048576 := by omega
    have hr0 := (h0.below hB0).more hB0.size
    go_enter Try.func8, Try.ntmps8
    go_wp2_with fail
    have htok0 : True := trivial
    go_region_held3 (fun w' => w'.cell? ⟨w.heap.size, 0, none⟩ = some (.int .i64 x1.short) ∧ w'.cell? ⟨w.heap.size, 1, none⟩ = some (.int .i64 x1.long) ∧ w'.cell? ⟨w.heap.size, 2, none⟩ = some (.int .i64 x1.on) ∧ w'.cell? ⟨w.heap.size, 3, none⟩ = some (.int .i64 x1.off)) (first | exact box4 HX1_3.out | exact box4 HX1_2.out | exact box4 HX1_1.out | exact box4 HX1.out) (first | (go_at_call 18; refine (toIS_at _ _ l0 _ hr0.drew hn0).mono ?_; rintro e w1 ⟨B0s, d0s, rfl, k0s, o0s, _, hb1⟩; have HX1_1 := Lib.hid (HX1.out.drew.after hb1)) | (go_at_call 15; have _t := htok0; refine (toG_any x1.short x1.long x1.on x1.off _).mono ?_; rintro e w2 ⟨rfl, hb2⟩; have HX1_2 := Lib.hid (HX1_1.out.after hb2)) | (go_at_call 27; refine (sIsOnAt_any B0s d0s l0 x1 a2 _ ((Own.rd' encI_len o0s).after hb2) hn0 k0s).mono ?_; rintro e w3 ⟨rfl, hb3⟩; have HX1_3 := Lib.hid (HX1_2.out.after hb3)))
    have hs1 := hb1.size
    have hB1 := hB0.drew.trans (hb1.mono hB0.size)
    have hw1 := hB1.size
    have to0s := o0s.lt
    have hs2 := hb2.size
    have hB2 := hB1.trans (hb2.mono hB1.size)
    have hw2 := hB2.size
    have o0s_2 := o0s.keep hb2
    clear o0s
    have hs3 := hb3.size
    have hB3 := hB2.trans (hb3.mono hB2.size)
    have hw3 := hB3.size
    have o0s_3 := o0s_2.keep hb3
    clear o0s_2
    try dsimp only
    go_wp2_with fail
    refine (toIS_at _ _ l0 _ ((h0.below hB3).more hB3.size) hn0).mono ?_
    rintro e w4 ⟨B0i, d0i, rfl, k0i, o0i, _, hb4⟩
    have hs4 := hb4.size
    have hB4 := hB3.trans (hb4.mono hB3.size)
    have hw4 := hB4.size
    have o0s_4 := o0s_3.keep hb4
    clear o0s_3
    have HX1_4 := Lib.hid (HX1_3.out.after hb4)
    have to0i := o0i.lt
    obtain ⟨z1_4_0, z1_4_1, z1_4_2, z1_4_3⟩ := box4 HX1_4.out
    go_wp2_with fail
    refine (toG_any _ _ _ _ _).mono ?_
    rintro e w5 ⟨rfl, hb5⟩
    have hs5 := hb5.size
    have hB5 := hB4.trans (hb5.mono hB4.size)
    have hw5 := hB5.size
    have o0s_5 := o0s_4.keep hb5
    clear o0s_4
    have o0i_5 := o0i.keep hb5
    clear o0i
    have HX1_5 := Lib.hid (HX1_4.out.after hb5)
    clear z1_4_0 z1_4_1 z1_4_2 z1_4_3
    go_wp2_with fail
    refine (IsOnAt_any B0i d0i l0 x1 a2 _ (Own.rd' encI_len o0i_5) hn0 k0i).mono ?_
    rintro e w6 ⟨rfl, hb6⟩
    have hs6 := hb6.size
    have hB6 := hB5.trans (hb6.mono hB5.size)
    have hw6 := hB6.size
    have o0s_6 := o0s_5.keep hb6
    clear o0s_5
    have o0i_6 := o0i_5.keep hb6
    clear o0i_5
    have HX1_6 := Lib.hid (HX1_5.out.after hb6)
    go_wp2_with fail
    refine (toIS_at _ _ l0 _ ((h0.below hB6).more hB6.size) hn0).mono ?_
    rintro e w7 ⟨B0e0, d0e0, rfl, k0e0, o0e0, _, hb7⟩
    have hs7 := hb7.size
    have hB7 := hB6.trans (hb7.mono hB6.size)
    have hw7 := hB7.size
    have o0s_7 := o0s_6.keep hb7
    clear o0s_6
    have o0i_7 := o0i_6.keep hb7
    clear o0i_6
    have HX1_7 := Lib.hid (HX1_6.out.after hb7)
    have to0e0 := o0e0.lt
    go_wp2_with fail
    refine (eqIS_any _ _ _ _ l0 l0 _ (Own.rd' encI_len o0i_7) (Own.rd' encI_len o0e0) hn0).mono ?_
    rintro e w8 ⟨rfl, hb8⟩
    have hs8 := hb8.size
    have hB8 := hB7.trans (hb8.mono hB7.size)
    have hw8 := hB8.size
    have o0s_8 := o0s_7.keep hb8
    clear o0s_7
    have o0i_8 := o0i_7.keep hb8
    clear o0i_7
    have o0e0_8 := o0e0.keep hb8
    clear o0e0
    have HX1_8 := Lib.hid (HX1_7.out.after hb8)
    rw [eqsI_iff.2 rfl]
    clear o0e0_8
    go_wp2
    go_ret
    exact ⟨rfl, hB8⟩

end Go.Proofs.Ytaemdldpcpefbaa
