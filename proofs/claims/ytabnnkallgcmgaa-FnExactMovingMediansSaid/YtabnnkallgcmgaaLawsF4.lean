/-
  The law of MovingMedians: walked. (Printed by laws_F4.py.)
-/
import Derived.Test.YtabnnkallgcmgaaMmI
import Derived.Test.YtabnnkallgcmgaaMmS
import Derived.Deep.RegionHeld3
namespace Go.Proofs.Ytabnnkallgcmgaa
set_option linter.unusedVariables false
open Go.RowKit

set_option maxRecDepth 100000 in
set_option maxHeartbeats 2000000 in
theorem law_MovingMedians (A0 : Option Addr) (c0 : Nat) (l0 : List Int) (a1 : Int) (w : World) (h0 : Rd encI 1 w w.heap.size A0 l0) (m0 : l0.length ≤ maxLen) (wf0 : ∀ n ∈ l0, (Lit.int .i64 n).wf = true) (wf1 : (Lit.int .i64 a1).wf = true) :
    Calls Try.prog 6 #[.slice A0 l0.length c0, .int .i64 a1] w fun e w' => e = .returned (.bool true) ∧ Below w.heap.size w w' := by
  unfold maxLen at m0
  by_cases hl0 : l0.length ≤ 1048576
  rotate_left
  · go_enter Try.func6, Try.ntmps6
    go_wp2
    go_ret
    exact ⟨rfl, Below.refl _ _⟩
  · have hB0 : Below w.heap.size w w := by (repeat (first | with_reducible exact Below.refl _ _ | with_reducible assumption | with_reducible refine Below.setCell ?_ (by simp <;> omega) _ | with_reducible refine Below.alloc ?_ (by first | omega | (simp <;> omega)) _ | with_reducible refine Below.drew ?_ | with_reducible refine below_drewN ?_ _))
    have hn0 : l0.length ≤ 1048576 := by omega
    have hr0 := (h0.below hB0).more hB0.size
    go_enter Try.func6, Try.ntmps6
    go_wp2_with fail
    refine (toIS_at _ _ l0 _ hr0 hn0).mono ?_
    rintro e w1 ⟨B0s, d0s, rfl, k0s, o0s, _, hb1⟩
    have hs1 := hb1.size
    have hB1 := hB0.trans (hb1.mono hB0.size)
    have hw1 := hB1.size
    have to0s := o0s.lt
    go_wp2_with fail
    refine (sMovingMedians_any B0s d0s l0 a1 _ (Own.rd' encI_len o0s) hn0 k0s).mono ?_
    rintro e w2 ⟨Aw, cw, rfl, _, ow, hb2⟩
    have hs2 := hb2.size
    have hB2 := hB1.trans (hb2.mono hB1.size)
    have hw2 := hB2.size
    have o0s_2 := o0s.keep hb2
    clear o0s
    have tow := ow.lt
    go_wp2_with fail
    refine (toIS_at _ _ l0 _ ((h0.below hB2).more hB2.size) hn0).mono ?_
    rintro e w3 ⟨B0i, d0i, rfl, k0i, o0i, _, hb3⟩
    have hs3 := hb3.size
    have hB3 := hB2.trans (hb3.mono hB2.size)
    have hw3 := hB3.size
    have o0s_3 := o0s_2.keep hb3
    clear o0s_2
    have ow_3 := ow.keep hb3
    clear ow
    have to0i := o0i.lt
    go_wp2_with fail
    refine (MovingMedians_any B0i d0i l0 a1 _ (Own.rd' encI_len o0i) hn0 k0i).mono ?_
    rintro e w4 ⟨Ag, cg, rfl, _, og, hb4⟩
    have hs4 := hb4.size
    have hB4 := hB3.trans (hb4.mono hB3.size)
    have hw4 := hB4.size
    have o0s_4 := o0s_3.keep hb4
    clear o0s_3
    have ow_4 := ow_3.keep hb4
    clear ow_3
    have o0i_4 := o0i.keep hb4
    clear o0i
    have tog := og.lt
    go_wp2_with fail
    refine (eqIS_any Ag Aw cg cw (evL 0 3 mmF l0 a1) (evL 0 3 mmF l0 a1) _ (Own.rd' encI_len og) (Own.rd' encI_len ow_4) evL_len).mono ?_
    rintro e w5 ⟨rfl, hb5⟩
    have hs5 := hb5.size
    have hB5 := hB4.trans (hb5.mono hB4.size)
    have hw5 := hB5.size
    have o0s_5 := o0s_4.keep hb5
    clear o0s_4
    have ow_5 := ow_4.keep hb5
    clear ow_4
    have o0i_5 := o0i_4.keep hb5
    clear o0i_4
    have og_5 := og.keep hb5
    clear og
    rw [eqsI_iff.2 rfl]
    go_wp2_with fail
    refine (toIS_at _ _ l0 _ ((h0.below hB5).more hB5.size) hn0).mono ?_
    rintro e w6 ⟨B0e0, d0e0, rfl, k0e0, o0e0, _, hb6⟩
    have hs6 := hb6.size
    have hB6 := hB5.trans (hb6.mono hB5.size)
    have hw6 := hB6.size
    have o0s_6 := o0s_5.keep hb6
    clear o0s_5
    have ow_6 := ow_5.keep hb6
    clear ow_5
    have o0i_6 := o0i_5.keep hb6
    clear o0i_5
    have og_6 := og_5.keep hb6
    clear og_5
    have to0e0 := o0e0.lt
    go_wp2_with fail
    refine (eqIS_any _ _ _ _ l0 l0 _ (Own.rd' encI_len o0i_6) (Own.rd' encI_len o0e0) hn0).mono ?_
    rintro e w7 ⟨rfl, hb7⟩
    have hs7 := hb7.size
    have hB7 := hB6.trans (hb7.mono hB6.size)
    have hw7 := hB7.size
    have o0s_7 := o0s_6.keep hb7
    clear o0s_6
    have ow_7 := ow_6.keep hb7
    clear ow_6
    have o0i_7 := o0i_6.keep hb7
    clear o0i_6
    have og_7 := og_6.keep hb7
    clear og_6
    have o0e0_7 := o0e0.keep hb7
    clear o0e0
    rw [eqsI_iff.2 rfl]
    clear o0e0_7
    go_wp2_with fail
    refine (markIS_any _ _ _ _ _ _ _ o0i_7 hn0 (by omega) (by omega)).mono ?_
    rintro e w8 ⟨rfl, po0i, hg8⟩
    have hs8 := hg8.size
    have hB8 := hB7.grown hg8 hB7.size (fun q hq => by have := (to0i q hq).1; omega)
    have o0s_8 := o0s_7.grown hg8 (fun q hq hv => by have h1 := to0i q hq; have h2 := to0s q hv; omega)
    clear o0s_7
    have ow_8 := ow_7.grown hg8 (fun q hq hv => by have h1 := to0i q hq; have h2 := tow q hv; omega)
    clear ow_7
    clear o0i_7
    have og_8 := og_7.grown hg8 (fun q hq hv => by have h1 := to0i q hq; have h2 := tog q hv; omega)
    clear og_7
    go_wp2_with fail
    refine (eqIS_any Ag Aw cg cw (evL 0 3 mmF l0 a1) (evL 0 3 mmF l0 a1) _ (Own.rd' encI_len og_8) (Own.rd' encI_len ow_8) evL_len).mono ?_
    rintro e w9 ⟨rfl, hb9⟩
    have hs9 := hb9.size
    have hB9 := hB8.trans (hb9.mono hB8.size)
    have hw9 := hB9.size
    have o0s_9 := o0s_8.keep hb9
    clear o0s_8
    have ow_9 := ow_8.keep hb9
    clear ow_8
    have o0i_9 := po0i.keep hb9
    clear po0i
    have og_9 := og_8.keep hb9
    clear og_8
    rw [eqsI_iff.2 rfl]
    go_wp2_with fail
    refine (markIS_any _ _ _ _ _ _ _ og_9 evL_len (by omega) (by omega)).mono ?_
    rintro e w10 ⟨rfl, pog, hg10⟩
    have hs10 := hg10.size
    have hB10 := hB9.grown hg10 hB9.size (fun q hq => by have := (tog q hq).1; omega)
    have o0s_10 := o0s_9.grown hg10 (fun q hq hv => by have h1 := tog q hq; have h2 := to0s q hv; omega)
    clear o0s_9
    have ow_10 := ow_9.grown hg10 (fun q hq hv => by have h1 := tog q hq; have h2 := tow q hv; omega)
    clear ow_9
    have o0i_10 := o0i_9.grown hg10 (fun q hq hv => by have h1 := tog q hq; have h2 := to0i q hv; omega)
    clear o0i_9
    clear og_9
    go_wp2_with fail
    refine (same_below (heldIS_any Ag (evL 0 3 mmF l0 a1).length cg 1 _ (Own.rd' encI_len pog) evL_len (by omega) (by omega))).mono ?_
    rintro e w11 ⟨rfl, hb11⟩
    have hs11 := hb11.size
    have hB11 := hB10.trans (hb11.mono hB10.size)
    have hw11 := hB11.size
    have o0s_11 := o0s_10.keep hb11
    clear o0s_10
    have ow_11 := ow_10.keep hb11
    clear ow_10
    have o0i_11 := o0i_10.keep hb11
    clear o0i_10
    have og_11 := pog.keep hb11
    clear pog
    go_wp2_with fail
    refine (toIS_at _ _ l0 _ ((h0.below hB11).more hB11.size) hn0).mono ?_
    rintro e w12 ⟨B0h, d0h, rfl, k0h, o0h, _, hb12⟩
    have hs12 := hb12.size
    have hB12 := hB11.trans (hb12.mono hB11.size)
    have hw12 := hB12.size
    have o0s_12 := o0s_11.keep hb12
    clear o0s_11
    have ow_12 := ow_11.keep hb12
    clear ow_11
    have o0i_12 := o0i_11.keep hb12
    clear o0i_11
    have og_12 := og_11.keep hb12
    clear og_11
    have to0h := o0h.lt
    go_wp2_with fail
    refine (MovingMedians_any B0h d0h l0 a1 _ (Own.rd' encI_len o0h) hn0 k0h).mono ?_
    rintro e w13 ⟨Ah, ch, rfl, _, oh, hb13⟩
    have hs13 := hb13.size
    have hB13 := hB12.trans (hb13.mono hB12.size)
    have hw13 := hB13.size
    have o0s_13 := o0s_12.keep hb13
    clear o0s_12
    have ow_13 := ow_12.keep hb13
    clear ow_12
    have o0i_13 := o0i_12.keep hb13
    clear o0i_12
    have og_13 := og_12.keep hb13
    clear og_12
    have o0h_13 := o0h.keep hb13
    clear o0h
    have toh := oh.lt
    go_wp2_with fail
    refine (eqIS_any Ah Aw ch cw (evL 0 3 mmF l0 a1) (evL 0 3 mmF l0 a1) _ (Own.rd' encI_len oh) (Own.rd' encI_len ow_13) evL_len).mono ?_
    rintro e w14 ⟨rfl, hb14⟩
    have hs14 := hb14.size
    have hB14 := hB13.trans (hb14.mono hB13.size)
    have hw14 := hB14.size
    have o0s_14 := o0s_13.keep hb14
    clear o0s_13
    have ow_14 := ow_13.keep hb14
    clear ow_13
    have o0i_14 := o0i_13.keep hb14
    clear o0i_13
    have og_14 := og_13.keep hb14
    clear og_13
    have o0h_14 := o0h_13.keep hb14
    clear o0h_13
    have oh_14 := oh.keep hb14
    clear oh
    rw [eqsI_iff.2 rfl]
    go_wp2_with fail
    refine (same_below (heldIS_any Ag (evL 0 3 mmF l0 a1).length cg 1 _ (Own.rd' encI_len og_14) evL_len (by omega) (by omega))).mono ?_
    rintro e w15 ⟨rfl, hb15⟩
    have hs15 := hb15.size
    have hB15 := hB14.trans (hb15.mono hB14.size)
    have hw15 := hB15.size
    have o0s_15 := o0s_14.keep hb15
    clear o0s_14
    have ow_15 := ow_14.keep hb15
    clear ow_14
    have o0i_15 := o0i_14.keep hb15
    clear o0i_14
    have og_15 := og_14.keep hb15
    clear og_14
    have o0h_15 := o0h_14.keep hb15
    clear o0h_14
    have oh_15 := oh_14.keep hb15
    clear oh_14
    go_wp2
    go_ret
    exact ⟨rfl, hB15⟩

end Go.Proofs.Ytabnnkallgcmgaa
