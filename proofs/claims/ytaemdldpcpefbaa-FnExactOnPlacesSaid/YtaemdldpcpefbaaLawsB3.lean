/-
  The law of OnPlaces: walked. (Printed by laws_B2.py.)
-/
import Derived.Test.YtaemdldpcpefbaaOnPl
import Derived.Deep.RegionHeld3
namespace Go.Proofs.Ytaemdldpcpefbaa
set_option linter.unusedVariables false
open Go.RowKit

set_option maxRecDepth 100000 in
set_option maxHeartbeats 2000000 in
theorem law_OnPlaces (A0 : Option Addr) (c0 : Nat) (l0 : List Int) (x1 : Setting) (w : World) (h0 : Rd encI 1 w w.heap.size A0 l0) (m0 : l0.length ≤ maxLen) (wf0 : ∀ n ∈ l0, (Lit.int .i64 n).wf = true) :
    Calls Try.prog 10 #[.slice A0 l0.length c0, .agg #[.int .i64 x1.short, .int .i64 x1.long, .int .i64 x1.on, .int .i64 x1.off]] w fun e w' => e = .returned (.bool true) ∧ Below w.heap.size w w' := by
  unfold maxLen at m0
  by_cases hl0 : l0.length ≤ 1048576
  rotate_left
  · go_enter Try.func10, Try.ntmps10
    go_wp2
    go_ret
    refine ⟨rfl, ?_⟩
    (repeat (first | with_reducible exact Below.refl _ _ | with_reducible assumption | with_reducible refine Below.setCell ?_ (by simp <;> omega) _ | with_reducible refine Below.alloc ?_ (by first | omega | (simp <;> omega)) _ | with_reducible refine Below.drew ?_ | with_reducible refine below_drewN ?_ _))
  · have hB0 : Below w.heap.size w (w.alloc (.cells #[.int .i64 x1.short, .int .i64 x1.long, .int .i64 x1.on, .int .i64 x1.off] 23)) := by (repeat (first | with_reducible exact Below.refl _ _ | with_reducible assumption | with_reducible refine Below.setCell ?_ (by simp <;> omega) _ | with_reducible refine Below.alloc ?_ (by first | omega | (simp <;> omega)) _ | with_reducible refine Below.drew ?_ | with_reducible refine below_drewN ?_ _))
    have HX1 : Hid (Blk (w.alloc (.cells #[.int .i64 x1.short, .int .i64 x1.long, .int .i64 x1.on, .int .i64 x1.off] 23)) w.heap.size 23 #[.int .i64 x1.short, .int .i64 x1.long, .int .i64 x1.on, .int .i64 x1.off]) := by first | exact Blk.new w 23 #[.int .i64 x1.short, .int .i64 x1.long, .int .i64 x1.on, .int .i64 x1.off] | (have hq := Blk.new w 23 #[.int .i64 x1.short, .int .i64 x1.long, .int .i64 x1.on, .int .i64 x1.off]; simp at hq; exact hq)
    have hn0 : l0.length ≤ 1048576 := by omega
    have hr0 := (h0.below hB0).more hB0.size
    go_enter Try.func10, Try.ntmps10
    go_wp2_with fail
    have htok0 : True := trivial
    go_region_held3 (fun w' => w'.cell? ⟨w.heap.size, 0, none⟩ = some (.int .i64 x1.short) ∧ w'.cell? ⟨w.heap.size, 1, none⟩ = some (.int .i64 x1.long) ∧ w'.cell? ⟨w.heap.size, 2, none⟩ = some (.int .i64 x1.on) ∧ w'.cell? ⟨w.heap.size, 3, none⟩ = some (.int .i64 x1.off)) (first | exact box4 HX1_3.out | exact box4 HX1_2.out | exact box4 HX1_1.out | exact box4 HX1.out) (first | (go_at_call 18; refine (toIS_at _ _ l0 _ hr0.drew hn0).mono ?_; rintro e w1 ⟨B0s, d0s, rfl, k0s, o0s, _, hb1⟩; have HX1_1 := Lib.hid (HX1.out.drew.after hb1)) | (go_at_call 15; have _t := htok0; refine (toG_any x1.short x1.long x1.on x1.off _).mono ?_; rintro e w2 ⟨rfl, hb2⟩; have HX1_2 := Lib.hid (HX1_1.out.after hb2)) | (go_at_call 31; refine (sOnPlaces_any B0s d0s l0 x1 _ ((Own.rd' encI_len o0s).after hb2) hn0 k0s).mono ?_; rintro e w3 ⟨Aw, cw, rfl, _, ow, hb3⟩; have HX1_3 := Lib.hid (HX1_2.out.after hb3)))
    have hs1 := hb1.size
    have hB1 := hB0.drew.trans (hb1.mono hB0.size)
    have hw1 := hB1.size
    have to0s := o0s.lt
    have hs2 := hb2.size
    have hB2 := hB1.trans (hb2.mono hB1.size)
    have hw2 := hB2.size
    have o0s_2 := o0s.keep hb2
    clear o0s
    have hs3 := hb3.size
    have hB3 := hB2.trans (hb3.mono hB2.size)
    have hw3 := hB3.size
    have o0s_3 := o0s_2.keep hb3
    clear o0s_2
    try dsimp only
    have tow := ow.lt
    go_wp2_with fail
    refine (toIS_at _ _ l0 _ ((h0.below hB3).more hB3.size) hn0).mono ?_
    rintro e w4 ⟨B0i, d0i, rfl, k0i, o0i, _, hb4⟩
    have hs4 := hb4.size
    have hB4 := hB3.trans (hb4.mono hB3.size)
    have hw4 := hB4.size
    have o0s_4 := o0s_3.keep hb4
    clear o0s_3
    have ow_4 := ow.keep hb4
    clear ow
    have HX1_4 := Lib.hid (HX1_3.out.after hb4)
    have to0i := o0i.lt
    obtain ⟨z1_4_0, z1_4_1, z1_4_2, z1_4_3⟩ := box4 HX1_4.out
    go_wp2_with fail
    refine (toG_any _ _ _ _ _).mono ?_
    rintro e w5 ⟨rfl, hb5⟩
    have hs5 := hb5.size
    have hB5 := hB4.trans (hb5.mono hB4.size)
    have hw5 := hB5.size
    have o0s_5 := o0s_4.keep hb5
    clear o0s_4
    have ow_5 := ow_4.keep hb5
    clear ow_4
    have o0i_5 := o0i.keep hb5
    clear o0i
    have HX1_5 := Lib.hid (HX1_4.out.after hb5)
    clear z1_4_0 z1_4_1 z1_4_2 z1_4_3
    go_wp2_with fail
    refine (OnPlaces_any B0i d0i l0 x1 _ (Own.rd' encI_len o0i_5) hn0 k0i).mono ?_
    rintro e w6 ⟨Ag, cg, rfl, _, og, hb6⟩
    have hs6 := hb6.size
    have hB6 := hB5.trans (hb6.mono hB5.size)
    have hw6 := hB6.size
    have o0s_6 := o0s_5.keep hb6
    clear o0s_5
    have ow_6 := ow_5.keep hb6
    clear ow_5
    have o0i_6 := o0i_5.keep hb6
    clear o0i_5
    have HX1_6 := Lib.hid (HX1_5.out.after hb6)
    have tog := og.lt
    go_wp2_with fail
    refine (eqIS_any Ag Aw cg cw (onL l0 x1) (onL l0 x1) _ (Own.rd' encI_len og) (Own.rd' encI_len ow_6) onL_len).mono ?_
    rintro e w7 ⟨rfl, hb7⟩
    have hs7 := hb7.size
    have hB7 := hB6.trans (hb7.mono hB6.size)
    have hw7 := hB7.size
    have o0s_7 := o0s_6.keep hb7
    clear o0s_6
    have ow_7 := ow_6.keep hb7
    clear ow_6
    have o0i_7 := o0i_6.keep hb7
    clear o0i_6
    have og_7 := og.keep hb7
    clear og
    have HX1_7 := Lib.hid (HX1_6.out.after hb7)
    rw [eqsI_iff.2 rfl]
    go_wp2_with fail
    refine (toIS_at _ _ l0 _ ((h0.below hB7).more hB7.size) hn0).mono ?_
    rintro e w8 ⟨B0e0, d0e0, rfl, k0e0, o0e0, _, hb8⟩
    have hs8 := hb8.size
    have hB8 := hB7.trans (hb8.mono hB7.size)
    have hw8 := hB8.size
    have o0s_8 := o0s_7.keep hb8
    clear o0s_7
    have ow_8 := ow_7.keep hb8
    clear ow_7
    have o0i_8 := o0i_7.keep hb8
    clear o0i_7
    have og_8 := og_7.keep hb8
    clear og_7
    have HX1_8 := Lib.hid (HX1_7.out.after hb8)
    have to0e0 := o0e0.lt
    go_wp2_with fail
    refine (eqIS_any _ _ _ _ l0 l0 _ (Own.rd' encI_len o0i_8) (Own.rd' encI_len o0e0) hn0).mono ?_
    rintro e w9 ⟨rfl, hb9⟩
    have hs9 := hb9.size
    have hB9 := hB8.trans (hb9.mono hB8.size)
    have hw9 := hB9.size
    have o0s_9 := o0s_8.keep hb9
    clear o0s_8
    have ow_9 := ow_8.keep hb9
    clear ow_8
    have o0i_9 := o0i_8.keep hb9
    clear o0i_8
    have og_9 := og_8.keep hb9
    clear og_8
    have o0e0_9 := o0e0.keep hb9
    clear o0e0
    have HX1_9 := Lib.hid (HX1_8.out.after hb9)
    rw [eqsI_iff.2 rfl]
    clear o0e0_9
    go_wp2_with fail
    refine (markIS_any _ _ _ _ _ _ _ o0i_9 hn0 (by omega) (by omega)).mono ?_
    rintro e w10 ⟨rfl, po0i, hg10⟩
    have hs10 := hg10.size
    have hB10 := hB9.grown hg10 hB9.size (fun q hq => by have := (to0i q hq).1; omega)
    have o0s_10 := o0s_9.grown hg10 (fun q hq hv => by have h1 := to0i q hq; have h2 := to0s q hv; omega)
    clear o0s_9
    have ow_10 := ow_9.grown hg10 (fun q hq hv => by have h1 := to0i q hq; have h2 := tow q hv; omega)
    clear ow_9
    clear o0i_9
    have og_10 := og_9.grown hg10 (fun q hq hv => by have h1 := to0i q hq; have h2 := tog q hv; omega)
    clear og_9
    have HX1_10 := Lib.hid (HX1_9.out.grown hg10 (fun hq => by have := (to0i _ hq.symm).1; simp at *; omega))
    go_wp2_with fail
    refine (eqIS_any Ag Aw cg cw (onL l0 x1) (onL l0 x1) _ (Own.rd' encI_len og_10) (Own.rd' encI_len ow_10) onL_len).mono ?_
    rintro e w11 ⟨rfl, hb11⟩
    have hs11 := hb11.size
    have hB11 := hB10.trans (hb11.mono hB10.size)
    have hw11 := hB11.size
    have o0s_11 := o0s_10.keep hb11
    clear o0s_10
    have ow_11 := ow_10.keep hb11
    clear ow_10
    have o0i_11 := po0i.keep hb11
    clear po0i
    have og_11 := og_10.keep hb11
    clear og_10
    have HX1_11 := Lib.hid (HX1_10.out.after hb11)
    rw [eqsI_iff.2 rfl]
    go_wp2_with fail
    refine (markIS_any _ _ _ _ _ _ _ og_11 onL_len (by omega) (by omega)).mono ?_
    rintro e w12 ⟨rfl, pog, hg12⟩
    have hs12 := hg12.size
    have hB12 := hB11.grown hg12 hB11.size (fun q hq => by have := (tog q hq).1; omega)
    have o0s_12 := o0s_11.grown hg12 (fun q hq hv => by have h1 := tog q hq; have h2 := to0s q hv; omega)
    clear o0s_11
    have ow_12 := ow_11.grown hg12 (fun q hq hv => by have h1 := tog q hq; have h2 := tow q hv; omega)
    clear ow_11
    have o0i_12 := o0i_11.grown hg12 (fun q hq hv => by have h1 := tog q hq; have h2 := to0i q hv; omega)
    clear o0i_11
    clear og_11
    have HX1_12 := Lib.hid (HX1_11.out.grown hg12 (fun hq => by have := (tog _ hq.symm).1; simp at *; omega))
    go_wp2_with fail
    refine (same_below (heldIS_any Ag (onL l0 x1).length cg 1 _ (Own.rd' encI_len pog) onL_len (by omega) (by omega))).mono ?_
    rintro e w13 ⟨rfl, hb13⟩
    have hs13 := hb13.size
    have hB13 := hB12.trans (hb13.mono hB12.size)
    have hw13 := hB13.size
    have o0s_13 := o0s_12.keep hb13
    clear o0s_12
    have ow_13 := ow_12.keep hb13
    clear ow_12
    have o0i_13 := o0i_12.keep hb13
    clear o0i_12
    have og_13 := pog.keep hb13
    clear pog
    have HX1_13 := Lib.hid (HX1_12.out.after hb13)
    go_wp2_with fail
    have htok13 : True := trivial
    go_region_held3 (fun w' => w'.cell? ⟨w.heap.size, 0, none⟩ = some (.int .i64 x1.short) ∧ w'.cell? ⟨w.heap.size, 1, none⟩ = some (.int .i64 x1.long) ∧ w'.cell? ⟨w.heap.size, 2, none⟩ = some (.int .i64 x1.on) ∧ w'.cell? ⟨w.heap.size, 3, none⟩ = some (.int .i64 x1.off)) (first | exact box4 HX1_16.out | exact box4 HX1_15.out | exact box4 HX1_14.out | exact box4 HX1_13.out) (first | (go_at_call 18; refine (toIS_at _ _ l0 _ (((h0.below hB13).more hB13.size).drew) hn0).mono ?_; rintro e w14 ⟨B0h, d0h, rfl, k0h, o0h, _, hb14⟩; have HX1_14 := Lib.hid (HX1_13.out.drew.after hb14)) | (go_at_call 15; have _t := htok13; refine (toG_any x1.short x1.long x1.on x1.off _).mono ?_; rintro e w15 ⟨rfl, hb15⟩; have HX1_15 := Lib.hid (HX1_14.out.after hb15)) | (go_at_call 32; refine (OnPlaces_any B0h d0h l0 x1 _ ((Own.rd' encI_len o0h).after hb15) hn0 k0h).mono ?_; rintro e w16 ⟨Ah, ch, rfl, _, oh, hb16⟩; have HX1_16 := Lib.hid (HX1_15.out.after hb16)))
    have hs14 := hb14.size
    have hB14 := hB13.drew.trans (hb14.mono hB13.size)
    have hw14 := hB14.size
    have o0s_14 := o0s_13.keep (show Below _ _ _ from (Below.refl _ _).drew.trans hb14)
    clear o0s_13
    have ow_14 := ow_13.keep (show Below _ _ _ from (Below.refl _ _).drew.trans hb14)
    clear ow_13
    have o0i_14 := o0i_13.keep (show Below _ _ _ from (Below.refl _ _).drew.trans hb14)
    clear o0i_13
    have og_14 := og_13.keep (show Below _ _ _ from (Below.refl _ _).drew.trans hb14)
    clear og_13
    have to0h := o0h.lt
    have hs15 := hb15.size
    have hB15 := hB14.trans (hb15.mono hB14.size)
    have hw15 := hB15.size
    have o0s_15 := o0s_14.keep hb15
    clear o0s_14
    have ow_15 := ow_14.keep hb15
    clear ow_14
    have o0i_15 := o0i_14.keep hb15
    clear o0i_14
    have og_15 := og_14.keep hb15
    clear og_14
    have o0h_15 := o0h.keep hb15
    clear o0h
    have hs16 := hb16.size
    have hB16 := hB15.trans (hb16.mono hB15.size)
    have hw16 := hB16.size
    have o0s_16 := o0s_15.keep hb16
    clear o0s_15
    have ow_16 := ow_15.keep hb16
    clear ow_15
    have o0i_16 := o0i_15.keep hb16
    clear o0i_15
    have og_16 := og_15.keep hb16
    clear og_15
    have o0h_16 := o0h_15.keep hb16
    clear o0h_15
    try dsimp only
    have toh := oh.lt
    go_wp2_with fail
    refine (eqIS_any Ah Aw ch cw (onL l0 x1) (onL l0 x1) _ (Own.rd' encI_len oh) (Own.rd' encI_len ow_16) onL_len).mono ?_
    rintro e w17 ⟨rfl, hb17⟩
    have hs17 := hb17.size
    have hB17 := hB16.trans (hb17.mono hB16.size)
    have hw17 := hB17.size
    have o0s_17 := o0s_16.keep hb17
    clear o0s_16
    have ow_17 := ow_16.keep hb17
    clear ow_16
    have o0i_17 := o0i_16.keep hb17
    clear o0i_16
    have og_17 := og_16.keep hb17
    clear og_16
    have o0h_17 := o0h_16.keep hb17
    clear o0h_16
    have oh_17 := oh.keep hb17
    clear oh
    have HX1_17 := Lib.hid (HX1_16.out.after hb17)
    rw [eqsI_iff.2 rfl]
    go_wp2_with fail
    refine (same_below (heldIS_any Ag (onL l0 x1).length cg 1 _ (Own.rd' encI_len og_17) onL_len (by omega) (by omega))).mono ?_
    rintro e w18 ⟨rfl, hb18⟩
    have hs18 := hb18.size
    have hB18 := hB17.trans (hb18.mono hB17.size)
    have hw18 := hB18.size
    have o0s_18 := o0s_17.keep hb18
    clear o0s_17
    have ow_18 := ow_17.keep hb18
    clear ow_17
    have o0i_18 := o0i_17.keep hb18
    clear o0i_17
    have og_18 := og_17.keep hb18
    clear og_17
    have o0h_18 := o0h_17.keep hb18
    clear o0h_17
    have oh_18 := oh_17.keep hb18
    clear oh_17
    have HX1_18 := Lib.hid (HX1_17.out.after hb18)
    go_wp2
    go_ret
    exact ⟨rfl, hB18⟩

end Go.Proofs.Ytaemdldpcpefbaa
