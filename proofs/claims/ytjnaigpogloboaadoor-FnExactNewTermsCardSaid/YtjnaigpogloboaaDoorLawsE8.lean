/-
  The law of NewTerms: walked. (Printed by laws_E5.py.)
-/
import Derived.Test.YtjnaigpogloboaaDoorNewI
import Derived.Test.YtjnaigpogloboaaDoorNewS
import Derived.Test.YtjnaigpogloboaaDoorTableRowM
import Derived.Test.YtjnaigpogloboaaDoorSwingM
import Derived.Deep.RegionHeld3
namespace Go.Proofs.YtjnaigpogloboaaDoor
set_option linter.unusedVariables false
open Go.RowKit

set_option maxRecDepth 100000 in
set_option maxHeartbeats 2000000 in
theorem law_NewTerms (A0 : Option Addr) (c0 : Nat) (l0 : List TableRow) (A1 : Option Addr) (c1 : Nat) (l1 : List Swing) (w : World) (h0 : Rd encT 2 w w.heap.size A0 l0) (m0 : l0.length ≤ maxLen) (h1 : Rd encS 4 w w.heap.size A1 l1) (m1 : l1.length ≤ maxLen) (HP : Pow10 w) :
    Calls Tryd.prog 9 #[.slice A0 l0.length c0, .slice A1 l1.length c1] w fun e w' => e = .returned (.bool true) ∧ Below w.heap.size w w' := by
  unfold maxLen at m0
  unfold maxLen at m1
  by_cases hl0 : (l0.length : Int) ≤ (1048576)
  rotate_left
  · have hsz0 : szRes (1048576) l0.length = -1 := by unfold szRes; rw [if_pos (by omega)]
    go_enter Tryd.func9, Tryd.ntmps9
    go_wp2_with fail
    refine (szTS_any _ _ _ _ _ (by omega) (by omega) (by omega)).mono ?_
    rintro e w' ⟨rfl, rfl⟩
    rw [hsz0]
    go_wp2
    go_ret
    exact ⟨rfl, Below.refl _ _⟩
  by_cases hl1 : (l1.length : Int) ≤ (1048576 - (l0.length : Int))
  rotate_left
  · have hsz1 : szRes (1048576 - (l0.length : Int)) l1.length = -1 := by unfold szRes; rw [if_pos (by omega)]
    have hsz0 : szRes (1048576) l0.length = (1048576) - (l0.length : Int) := by unfold szRes; rw [if_neg (by omega)]
    go_enter Tryd.func9, Tryd.ntmps9
    go_wp2_with fail
    refine (szTS_any _ _ _ _ _ (by omega) (by omega) (by omega)).mono ?_
    rintro e w' ⟨rfl, rfl⟩
    rw [hsz0]
    go_wp2_with fail
    refine (szSS_any _ _ _ _ _ (by omega) (by omega) (by omega)).mono ?_
    rintro e w' ⟨rfl, rfl⟩
    rw [hsz1]
    go_wp2
    go_ret
    exact ⟨rfl, Below.refl _ _⟩
  · have hB0 : Below w.heap.size w w := by (repeat (first | with_reducible exact Below.refl _ _ | with_reducible assumption | with_reducible refine Below.setCell ?_ (by simp <;> omega) _ | with_reducible refine Below.alloc ?_ (by first | omega | (simp <;> omega)) _ | with_reducible refine Below.drew ?_ | with_reducible refine below_drewN ?_ _))
    have hsz0 : szRes (1048576) l0.length = (1048576) - (l0.length : Int) := by unfold szRes; rw [if_neg (by omega)]
    have hn0 : l0.length ≤ 1048576 := by omega
    have hr0 := (h0.below hB0).more hB0.size
    have hsz1 : szRes (1048576 - (l0.length : Int)) l1.length = (1048576 - (l0.length : Int)) - (l1.length : Int) := by unfold szRes; rw [if_neg (by omega)]
    have hn1 : l1.length ≤ 1048576 := by omega
    have hr1 := (h1.below hB0).more hB0.size
    go_enter Tryd.func9, Tryd.ntmps9
    go_wp2_with fail
    refine (szTS_any _ _ _ _ _ (by omega) (by omega) (by omega)).mono ?_
    rintro e w' ⟨rfl, rfl⟩
    rw [hsz0]
    go_wp2_with fail
    refine (szSS_any _ _ _ _ _ (by omega) (by omega) (by omega)).mono ?_
    rintro e w' ⟨rfl, rfl⟩
    rw [hsz1]
    clear hsz0 hsz1
    go_wp2_with fail
    refine (toTS_at _ _ l0 _ hr0 hn0).mono ?_
    rintro e w1 ⟨B0s, d0s, rfl, k0s, o0s, _, hb1⟩
    have hs1 := hb1.size
    have hB1 := hB0.trans (hb1.mono hB0.size)
    have hw1 := hB1.size
    have to0s := o0s.lt
    go_wp2_with fail
    refine (toSS_at _ _ l1 _ ((h1.below hB1).more hB1.size) hn1).mono ?_
    rintro e w2 ⟨B1s, d1s, rfl, k1s, o1s, _, hb2⟩
    have hs2 := hb2.size
    have hB2 := hB1.trans (hb2.mono hB1.size)
    have hw2 := hB2.size
    have o0s_2 := o0s.keep hb2
    clear o0s
    have to1s := o1s.lt
    go_wp2_with fail
    refine (sNewTerms_any B0s B1s d0s d1s l0 l1 _ (Own.rd' encT_len o0s_2) (Own.rd' encS_len o1s) hn0 hn1).mono ?_
    rintro e w3 ⟨Aw, cw, rfl, _, ow, hb3⟩
    have hs3 := hb3.size
    have hB3 := hB2.trans (hb3.mono hB2.size)
    have hw3 := hB3.size
    have o0s_3 := o0s_2.keep hb3
    clear o0s_2
    have o1s_3 := o1s.keep hb3
    clear o1s
    have tow := ow.lt
    go_wp2_with fail
    refine (toTS_at _ _ l0 _ ((h0.below hB3).more hB3.size) hn0).mono ?_
    rintro e w4 ⟨B0i, d0i, rfl, k0i, o0i, _, hb4⟩
    have hs4 := hb4.size
    have hB4 := hB3.trans (hb4.mono hB3.size)
    have hw4 := hB4.size
    have o0s_4 := o0s_3.keep hb4
    clear o0s_3
    have o1s_4 := o1s_3.keep hb4
    clear o1s_3
    have ow_4 := ow.keep hb4
    clear ow
    have to0i := o0i.lt
    go_wp2_with fail
    refine (toSS_at _ _ l1 _ ((h1.below hB4).more hB4.size) hn1).mono ?_
    rintro e w5 ⟨B1i, d1i, rfl, k1i, o1i, _, hb5⟩
    have hs5 := hb5.size
    have hB5 := hB4.trans (hb5.mono hB4.size)
    have hw5 := hB5.size
    have o0s_5 := o0s_4.keep hb5
    clear o0s_4
    have o1s_5 := o1s_4.keep hb5
    clear o1s_4
    have ow_5 := ow_4.keep hb5
    clear ow_4
    have o0i_5 := o0i.keep hb5
    clear o0i
    have to1i := o1i.lt
    go_wp2_with fail
    refine (NewTerms_any B0i B1i d0i d1i l0 l1 _ (Own.rd' encT_len o0i_5) (Own.rd' encS_len o1i) hn0 hn1 (HP.after hB5 (Nat.le_refl _))).mono ?_
    rintro e w6 ⟨Ag, cg, rfl, _, og, hb6⟩
    have hs6 := hb6.size
    have hB6 := hB5.trans (hb6.mono hB5.size)
    have hw6 := hB6.size
    have o0s_6 := o0s_5.keep hb6
    clear o0s_5
    have o1s_6 := o1s_5.keep hb6
    clear o1s_5
    have ow_6 := ow_5.keep hb6
    clear ow_5
    have o0i_6 := o0i_5.keep hb6
    clear o0i_5
    have o1i_6 := o1i.keep hb6
    clear o1i
    have tog := og.lt
    go_wp2_with fail
    refine (eqSS_any Ag Aw cg cw (newL l0 l1) (newL l0 l1) _ (Own.rd' encS_len og) (Own.rd' encS_len ow_6) newL_len).mono ?_
    rintro e w7 ⟨rfl, hb7⟩
    have hs7 := hb7.size
    have hB7 := hB6.trans (hb7.mono hB6.size)
    have hw7 := hB7.size
    have o0s_7 := o0s_6.keep hb7
    clear o0s_6
    have o1s_7 := o1s_6.keep hb7
    clear o1s_6
    have ow_7 := ow_6.keep hb7
    clear ow_6
    have o0i_7 := o0i_6.keep hb7
    clear o0i_6
    have o1i_7 := o1i_6.keep hb7
    clear o1i_6
    have og_7 := og.keep hb7
    clear og
    rw [eqsS_iff.2 rfl]
    go_wp2_with fail
    refine (toTS_at _ _ l0 _ ((h0.below hB7).more hB7.size) hn0).mono ?_
    rintro e w8 ⟨B0e0, d0e0, rfl, k0e0, o0e0, _, hb8⟩
    have hs8 := hb8.size
    have hB8 := hB7.trans (hb8.mono hB7.size)
    have hw8 := hB8.size
    have o0s_8 := o0s_7.keep hb8
    clear o0s_7
    have o1s_8 := o1s_7.keep hb8
    clear o1s_7
    have ow_8 := ow_7.keep hb8
    clear ow_7
    have o0i_8 := o0i_7.keep hb8
    clear o0i_7
    have o1i_8 := o1i_7.keep hb8
    clear o1i_7
    have og_8 := og_7.keep hb8
    clear og_7
    have to0e0 := o0e0.lt
    go_wp2_with fail
    refine (eqTS_any _ _ _ _ l0 l0 _ (Own.rd' encT_len o0i_8) (Own.rd' encT_len o0e0) hn0).mono ?_
    rintro e w9 ⟨rfl, hb9⟩
    have hs9 := hb9.size
    have hB9 := hB8.trans (hb9.mono hB8.size)
    have hw9 := hB9.size
    have o0s_9 := o0s_8.keep hb9
    clear o0s_8
    have o1s_9 := o1s_8.keep hb9
    clear o1s_8
    have ow_9 := ow_8.keep hb9
    clear ow_8
    have o0i_9 := o0i_8.keep hb9
    clear o0i_8
    have o1i_9 := o1i_8.keep hb9
    clear o1i_8
    have og_9 := og_8.keep hb9
    clear og_8
    have o0e0_9 := o0e0.keep hb9
    clear o0e0
    rw [eqsT_iff.2 rfl]
    clear o0e0_9
    go_wp2_with fail
    refine (toSS_at _ _ l1 _ ((h1.below hB9).more hB9.size) hn1).mono ?_
    rintro e w10 ⟨B1e0, d1e0, rfl, k1e0, o1e0, _, hb10⟩
    have hs10 := hb10.size
    have hB10 := hB9.trans (hb10.mono hB9.size)
    have hw10 := hB10.size
    have o0s_10 := o0s_9.keep hb10
    clear o0s_9
    have o1s_10 := o1s_9.keep hb10
    clear o1s_9
    have ow_10 := ow_9.keep hb10
    clear ow_9
    have o0i_10 := o0i_9.keep hb10
    clear o0i_9
    have o1i_10 := o1i_9.keep hb10
    clear o1i_9
    have og_10 := og_9.keep hb10
    clear og_9
    have to1e0 := o1e0.lt
    go_wp2_with fail
    refine (eqSS_any _ _ _ _ l1 l1 _ (Own.rd' encS_len o1i_10) (Own.rd' encS_len o1e0) hn1).mono ?_
    rintro e w11 ⟨rfl, hb11⟩
    have hs11 := hb11.size
    have hB11 := hB10.trans (hb11.mono hB10.size)
    have hw11 := hB11.size
    have o0s_11 := o0s_10.keep hb11
    clear o0s_10
    have o1s_11 := o1s_10.keep hb11
    clear o1s_10
    have ow_11 := ow_10.keep hb11
    clear ow_10
    have o0i_11 := o0i_10.keep hb11
    clear o0i_10
    have o1i_11 := o1i_10.keep hb11
    clear o1i_10
    have og_11 := og_10.keep hb11
    clear og_10
    have o1e0_11 := o1e0.keep hb11
    clear o1e0
    rw [eqsS_iff.2 rfl]
    clear o1e0_11
    go_wp2_with fail
    refine (markTS_any _ _ _ _ _ _ _ o0i_11 hn0 (by omega) (by omega)).mono ?_
    rintro e w12 ⟨rfl, po0i, hg12⟩
    have hs12 := hg12.size
    have hB12 := hB11.grown hg12 hB11.size (fun q hq => by have := (to0i q hq).1; omega)
    have o0s_12 := o0s_11.grown hg12 (fun q hq hv => by have h1 := to0i q hq; have h2 := to0s q hv; omega)
    clear o0s_11
    have o1s_12 := o1s_11.grown hg12 (fun q hq hv => by have h1 := to0i q hq; have h2 := to1s q hv; omega)
    clear o1s_11
    have ow_12 := ow_11.grown hg12 (fun q hq hv => by have h1 := to0i q hq; have h2 := tow q hv; omega)
    clear ow_11
    clear o0i_11
    have o1i_12 := o1i_11.grown hg12 (fun q hq hv => by have h1 := to0i q hq; have h2 := to1i q hv; omega)
    clear o1i_11
    have og_12 := og_11.grown hg12 (fun q hq hv => by have h1 := to0i q hq; have h2 := tog q hv; omega)
    clear og_11
    go_wp2_with fail
    refine (markSS_any _ _ _ _ _ _ _ o1i_12 hn1 (by omega) (by omega)).mono ?_
    rintro e w13 ⟨rfl, po1i, hg13⟩
    have hs13 := hg13.size
    have hB13 := hB12.grown hg13 hB12.size (fun q hq => by have := (to1i q hq).1; omega)
    have o0s_13 := o0s_12.grown hg13 (fun q hq hv => by have h1 := to1i q hq; have h2 := to0s q hv; omega)
    clear o0s_12
    have o1s_13 := o1s_12.grown hg13 (fun q hq hv => by have h1 := to1i q hq; have h2 := to1s q hv; omega)
    clear o1s_12
    have ow_13 := ow_12.grown hg13 (fun q hq hv => by have h1 := to1i q hq; have h2 := tow q hv; omega)
    clear ow_12
    have o0i_13 := po0i.grown hg13 (fun q hq hv => by have h1 := to1i q hq; have h2 := to0i q hv; omega)
    clear po0i
    clear o1i_12
    have og_13 := og_12.grown hg13 (fun q hq hv => by have h1 := to1i q hq; have h2 := tog q hv; omega)
    clear og_12
    go_wp2_with fail
    refine (eqSS_any Ag Aw cg cw (newL l0 l1) (newL l0 l1) _ (Own.rd' encS_len og_13) (Own.rd' encS_len ow_13) newL_len).mono ?_
    rintro e w14 ⟨rfl, hb14⟩
    have hs14 := hb14.size
    have hB14 := hB13.trans (hb14.mono hB13.size)
    have hw14 := hB14.size
    have o0s_14 := o0s_13.keep hb14
    clear o0s_13
    have o1s_14 := o1s_13.keep hb14
    clear o1s_13
    have ow_14 := ow_13.keep hb14
    clear ow_13
    have o0i_14 := o0i_13.keep hb14
    clear o0i_13
    have o1i_14 := po1i.keep hb14
    clear po1i
    have og_14 := og_13.keep hb14
    clear og_13
    rw [eqsS_iff.2 rfl]
    go_wp2_with fail
    refine (markSS_any _ _ _ _ _ _ _ og_14 newL_len (by omega) (by omega)).mono ?_
    rintro e w15 ⟨rfl, pog, hg15⟩
    have hs15 := hg15.size
    have hB15 := hB14.grown hg15 hB14.size (fun q hq => by have := (tog q hq).1; omega)
    have o0s_15 := o0s_14.grown hg15 (fun q hq hv => by have h1 := tog q hq; have h2 := to0s q hv; omega)
    clear o0s_14
    have o1s_15 := o1s_14.grown hg15 (fun q hq hv => by have h1 := tog q hq; have h2 := to1s q hv; omega)
    clear o1s_14
    have ow_15 := ow_14.grown hg15 (fun q hq hv => by have h1 := tog q hq; have h2 := tow q hv; omega)
    clear ow_14
    have o0i_15 := o0i_14.grown hg15 (fun q hq hv => by have h1 := tog q hq; have h2 := to0i q hv; omega)
    clear o0i_14
    have o1i_15 := o1i_14.grown hg15 (fun q hq hv => by have h1 := tog q hq; have h2 := to1i q hv; omega)
    clear o1i_14
    clear og_14
    go_wp2_with fail
    refine (same_below (heldSS_any Ag (newL l0 l1).length cg 1 _ (Own.rd' encS_len pog) newL_len (by omega) (by omega))).mono ?_
    rintro e w16 ⟨rfl, hb16⟩
    have hs16 := hb16.size
    have hB16 := hB15.trans (hb16.mono hB15.size)
    have hw16 := hB16.size
    have o0s_16 := o0s_15.keep hb16
    clear o0s_15
    have o1s_16 := o1s_15.keep hb16
    clear o1s_15
    have ow_16 := ow_15.keep hb16
    clear ow_15
    have o0i_16 := o0i_15.keep hb16
    clear o0i_15
    have o1i_16 := o1i_15.keep hb16
    clear o1i_15
    have og_16 := pog.keep hb16
    clear pog
    go_wp2_with fail
    refine (toTS_at _ _ l0 _ ((h0.below hB16).more hB16.size) hn0).mono ?_
    rintro e w17 ⟨B0h, d0h, rfl, k0h, o0h, _, hb17⟩
    have hs17 := hb17.size
    have hB17 := hB16.trans (hb17.mono hB16.size)
    have hw17 := hB17.size
    have o0s_17 := o0s_16.keep hb17
    clear o0s_16
    have o1s_17 := o1s_16.keep hb17
    clear o1s_16
    have ow_17 := ow_16.keep hb17
    clear ow_16
    have o0i_17 := o0i_16.keep hb17
    clear o0i_16
    have o1i_17 := o1i_16.keep hb17
    clear o1i_16
    have og_17 := og_16.keep hb17
    clear og_16
    have to0h := o0h.lt
    go_wp2_with fail
    refine (toSS_at _ _ l1 _ ((h1.below hB17).more hB17.size) hn1).mono ?_
    rintro e w18 ⟨B1h, d1h, rfl, k1h, o1h, _, hb18⟩
    have hs18 := hb18.size
    have hB18 := hB17.trans (hb18.mono hB17.size)
    have hw18 := hB18.size
    have o0s_18 := o0s_17.keep hb18
    clear o0s_17
    have o1s_18 := o1s_17.keep hb18
    clear o1s_17
    have ow_18 := ow_17.keep hb18
    clear ow_17
    have o0i_18 := o0i_17.keep hb18
    clear o0i_17
    have o1i_18 := o1i_17.keep hb18
    clear o1i_17
    have og_18 := og_17.keep hb18
    clear og_17
    have o0h_18 := o0h.keep hb18
    clear o0h
    have to1h := o1h.lt
    go_wp2_with fail
    refine (NewTerms_any B0h B1h d0h d1h l0 l1 _ (Own.rd' encT_len o0h_18) (Own.rd' encS_len o1h) hn0 hn1 (HP.after hB18 (Nat.le_refl _))).mono ?_
    rintro e w19 ⟨Ah, ch, rfl, _, oh, hb19⟩
    have hs19 := hb19.size
    have hB19 := hB18.trans (hb19.mono hB18.size)
    have hw19 := hB19.size
    have o0s_19 := o0s_18.keep hb19
    clear o0s_18
    have o1s_19 := o1s_18.keep hb19
    clear o1s_18
    have ow_19 := ow_18.keep hb19
    clear ow_18
    have o0i_19 := o0i_18.keep hb19
    clear o0i_18
    have o1i_19 := o1i_18.keep hb19
    clear o1i_18
    have og_19 := og_18.keep hb19
    clear og_18
    have o0h_19 := o0h_18.keep hb19
    clear o0h_18
    have o1h_19 := o1h.keep hb19
    clear o1h
    have toh := oh.lt
    go_wp2_with fail
    refine (eqSS_any Ah Aw ch cw (newL l0 l1) (newL l0 l1) _ (Own.rd' encS_len oh) (Own.rd' encS_len ow_19) newL_len).mono ?_
    rintro e w20 ⟨rfl, hb20⟩
    have hs20 := hb20.size
    have hB20 := hB19.trans (hb20.mono hB19.size)
    have hw20 := hB20.size
    have o0s_20 := o0s_19.keep hb20
    clear o0s_19
    have o1s_20 := o1s_19.keep hb20
    clear o1s_19
    have ow_20 := ow_19.keep hb20
    clear ow_19
    have o0i_20 := o0i_19.keep hb20
    clear o0i_19
    have o1i_20 := o1i_19.keep hb20
    clear o1i_19
    have og_20 := og_19.keep hb20
    clear og_19
    have o0h_20 := o0h_19.keep hb20
    clear o0h_19
    have o1h_20 := o1h_19.keep hb20
    clear o1h_19
    have oh_20 := oh.keep hb20
    clear oh
    rw [eqsS_iff.2 rfl]
    go_wp2_with fail
    refine (same_below (heldSS_any Ag (newL l0 l1).length cg 1 _ (Own.rd' encS_len og_20) newL_len (by omega) (by omega))).mono ?_
    rintro e w21 ⟨rfl, hb21⟩
    have hs21 := hb21.size
    have hB21 := hB20.trans (hb21.mono hB20.size)
    have hw21 := hB21.size
    have o0s_21 := o0s_20.keep hb21
    clear o0s_20
    have o1s_21 := o1s_20.keep hb21
    clear o1s_20
    have ow_21 := ow_20.keep hb21
    clear ow_20
    have o0i_21 := o0i_20.keep hb21
    clear o0i_20
    have o1i_21 := o1i_20.keep hb21
    clear o1i_20
    have og_21 := og_20.keep hb21
    clear og_20
    have o0h_21 := o0h_20.keep hb21
    clear o0h_20
    have o1h_21 := o1h_20.keep hb21
    clear o1h_20
    have oh_21 := oh_20.keep hb21
    clear oh_20
    go_wp2
    go_ret
    exact ⟨rfl, hB21⟩

end Go.Proofs.YtjnaigpogloboaaDoor
