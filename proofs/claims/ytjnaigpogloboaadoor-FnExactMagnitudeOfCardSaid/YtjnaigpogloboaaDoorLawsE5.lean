/-
  The law of MagnitudeOf: walked. (Printed by laws_E5.py.)
-/
import Derived.Test.YtjnaigpogloboaaDoorMagOf
import Derived.Deep.RegionHeld3
namespace Go.Proofs.YtjnaigpogloboaaDoor
set_option linter.unusedVariables false
open Go.RowKit

set_option maxRecDepth 100000 in
set_option maxHeartbeats 2000000 in
theorem law_MagnitudeOf (A0 : Option Addr) (c0 : Nat) (l0 : List TableRow) (x1 : Swing) (w : World) (h0 : Rd encT 2 w w.heap.size A0 l0) (m0 : l0.length ≤ maxLen) (HP : Pow10 w) :
    Calls Tryd.prog 6 #[.slice A0 l0.length c0, .agg #[.int .i64 x1.station, .int .i64 x1.far, .int .i64 x1.width, .int .i64 x1.term]] w fun e w' => e = .returned (.bool true) ∧ Below w.heap.size w w' := by
  unfold maxLen at m0
  by_cases hl0 : (l0.length : Int) ≤ (1048576)
  rotate_left
  · have hsz0 : szRes (1048576) l0.length = -1 := by unfold szRes; rw [if_pos (by omega)]
    go_enter Tryd.func6, Tryd.ntmps6
    go_wp2_with fail
    refine (szTS_any _ _ _ _ _ (by omega) (by omega) (by omega)).mono ?_
    rintro e w' ⟨rfl, rfl⟩
    rw [hsz0]
    go_wp2
    go_ret
    refine ⟨rfl, ?_⟩
    (repeat (first | with_reducible exact Below.refl _ _ | with_reducible assumption | with_reducible refine Below.setCell ?_ (by simp <;> omega) _ | with_reducible refine Below.alloc ?_ (by first | omega | (simp <;> omega)) _ | with_reducible refine Below.drew ?_ | with_reducible refine below_drewN ?_ _))
  · have hB0 : Below w.heap.size w (w.alloc (.cells #[.int .i64 x1.station, .int .i64 x1.far, .int .i64 x1.width, .int .i64 x1.term] 35)) := by (repeat (first | with_reducible exact Below.refl _ _ | with_reducible assumption | with_reducible refine Below.setCell ?_ (by simp <;> omega) _ | with_reducible refine Below.alloc ?_ (by first | omega | (simp <;> omega)) _ | with_reducible refine Below.drew ?_ | with_reducible refine below_drewN ?_ _))
    have HX1 : Hid (Blk (w.alloc (.cells #[.int .i64 x1.station, .int .i64 x1.far, .int .i64 x1.width, .int .i64 x1.term] 35)) w.heap.size 35 #[.int .i64 x1.station, .int .i64 x1.far, .int .i64 x1.width, .int .i64 x1.term]) := by first | exact Blk.new w 35 #[.int .i64 x1.station, .int .i64 x1.far, .int .i64 x1.width, .int .i64 x1.term] | (have hq := Blk.new w 35 #[.int .i64 x1.station, .int .i64 x1.far, .int .i64 x1.width, .int .i64 x1.term]; simp at hq; exact hq)
    have hsz0 : szRes (1048576) l0.length = (1048576) - (l0.length : Int) := by unfold szRes; rw [if_neg (by omega)]
    have hn0 : l0.length ≤ 1048576 := by omega
    have hr0 := (h0.below hB0).more hB0.size
    go_enter Tryd.func6, Tryd.ntmps6
    go_wp2_with fail
    refine (szTS_any _ _ _ _ _ (by omega) (by omega) (by omega)).mono ?_
    rintro e w' ⟨rfl, rfl⟩
    rw [hsz0]
    clear hsz0
    go_wp2_with fail
    have htok0 : True := trivial
    go_region_held3 (fun w' => w'.cell? ⟨w.heap.size, 0, none⟩ = some (.int .i64 x1.station) ∧ w'.cell? ⟨w.heap.size, 1, none⟩ = some (.int .i64 x1.far) ∧ w'.cell? ⟨w.heap.size, 2, none⟩ = some (.int .i64 x1.width) ∧ w'.cell? ⟨w.heap.size, 3, none⟩ = some (.int .i64 x1.term)) (first | exact box4 HX1_3.out | exact box4 HX1_2.out | exact box4 HX1_1.out | exact box4 HX1.out) (first | (go_at_call 18; refine (toTS_at _ _ l0 _ hr0.drew hn0).mono ?_; rintro e w1 ⟨B0s, d0s, rfl, k0s, o0s, _, hb1⟩; have HX1_1 := Lib.hid (HX1.out.drew.after hb1)) | (go_at_call 22; have _t := htok0; refine (toS_any x1.station x1.far x1.width x1.term _).mono ?_; rintro e w2 ⟨rfl, hb2⟩; have HX1_2 := Lib.hid (HX1_1.out.after hb2)) | (go_at_call 21; refine (sMagnitudeOf_any B0s d0s l0 x1 _ ((Own.rd' encT_len o0s).after hb2) hn0).mono ?_; rintro e w3 ⟨rfl, hb3⟩; have HX1_3 := Lib.hid (HX1_2.out.after hb3)))
    have hs1 := hb1.size
    have hB1 := hB0.drew.trans (hb1.mono hB0.size)
    have hw1 := hB1.size
    have to0s := o0s.lt
    have hs2 := hb2.size
    have hB2 := hB1.trans (hb2.mono hB1.size)
    have hw2 := hB2.size
    have o0s_2 := o0s.keep hb2
    clear o0s
    have hs3 := hb3.size
    have hB3 := hB2.trans (hb3.mono hB2.size)
    have hw3 := hB3.size
    have o0s_3 := o0s_2.keep hb3
    clear o0s_2
    try dsimp only
    go_wp2_with fail
    refine (toTS_at _ _ l0 _ ((h0.below hB3).more hB3.size) hn0).mono ?_
    rintro e w4 ⟨B0i, d0i, rfl, k0i, o0i, _, hb4⟩
    have hs4 := hb4.size
    have hB4 := hB3.trans (hb4.mono hB3.size)
    have hw4 := hB4.size
    have o0s_4 := o0s_3.keep hb4
    clear o0s_3
    have HX1_4 := Lib.hid (HX1_3.out.after hb4)
    have to0i := o0i.lt
    obtain ⟨z1_4_0, z1_4_1, z1_4_2, z1_4_3⟩ := box4 HX1_4.out
    go_wp2_with fail
    refine (toS_any _ _ _ _ _).mono ?_
    rintro e w5 ⟨rfl, hb5⟩
    have hs5 := hb5.size
    have hB5 := hB4.trans (hb5.mono hB4.size)
    have hw5 := hB5.size
    have o0s_5 := o0s_4.keep hb5
    clear o0s_4
    have o0i_5 := o0i.keep hb5
    clear o0i
    have HX1_5 := Lib.hid (HX1_4.out.after hb5)
    clear z1_4_0 z1_4_1 z1_4_2 z1_4_3
    go_wp2_with fail
    refine (MagnitudeOf_any B0i d0i l0 x1 _ (Own.rd' encT_len o0i_5) hn0 (HP.after hB5 (Nat.le_refl _))).mono ?_
    rintro e w6 ⟨rfl, hb6⟩
    have hs6 := hb6.size
    have hB6 := hB5.trans (hb6.mono hB5.size)
    have hw6 := hB6.size
    have o0s_6 := o0s_5.keep hb6
    clear o0s_5
    have o0i_6 := o0i_5.keep hb6
    clear o0i_5
    have HX1_6 := Lib.hid (HX1_5.out.after hb6)
    go_wp2_with fail
    refine (toTS_at _ _ l0 _ ((h0.below hB6).more hB6.size) hn0).mono ?_
    rintro e w7 ⟨B0e0, d0e0, rfl, k0e0, o0e0, _, hb7⟩
    have hs7 := hb7.size
    have hB7 := hB6.trans (hb7.mono hB6.size)
    have hw7 := hB7.size
    have o0s_7 := o0s_6.keep hb7
    clear o0s_6
    have o0i_7 := o0i_6.keep hb7
    clear o0i_6
    have HX1_7 := Lib.hid (HX1_6.out.after hb7)
    have to0e0 := o0e0.lt
    go_wp2_with fail
    refine (eqTS_any _ _ _ _ l0 l0 _ (Own.rd' encT_len o0i_7) (Own.rd' encT_len o0e0) hn0).mono ?_
    rintro e w8 ⟨rfl, hb8⟩
    have hs8 := hb8.size
    have hB8 := hB7.trans (hb8.mono hB7.size)
    have hw8 := hB8.size
    have o0s_8 := o0s_7.keep hb8
    clear o0s_7
    have o0i_8 := o0i_7.keep hb8
    clear o0i_7
    have o0e0_8 := o0e0.keep hb8
    clear o0e0
    have HX1_8 := Lib.hid (HX1_7.out.after hb8)
    rw [eqsT_iff.2 rfl]
    clear o0e0_8
    go_wp2
    go_ret
    exact ⟨rfl, hB8⟩

end Go.Proofs.YtjnaigpogloboaaDoor
