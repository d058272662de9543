/-
  The law of PairedPicks: walked. (Printed by gen_A10.py.)
-/
import Derived.Test.YtiakaglgfboepaaPr3
import Derived.Test.YtiakaglgfboepaaPickM
namespace Go.Proofs.Ytiakaglgfboepaa
set_option linter.unusedVariables false
open Go.RowKit

set_option maxRecDepth 100000 in
set_option maxHeartbeats 2000000 in
theorem law_PairedPicks (A0 : Option Addr) (c0 : Nat) (l0 : List Pick) (a1 : Int) (w : World) (h0 : Rd encP 7 w w.heap.size A0 l0) (m0 : l0.length ≤ maxLen) (wf1 : (Lit.int .i64 a1).wf = true) :
    Calls Try.prog 11 #[.slice A0 l0.length c0, .int .i64 a1] w fun e w' => e = .returned (.bool true) ∧ Below w.heap.size w w' := by
  unfold maxLen at m0
  by_cases hl0 : (l0.length : Int) ≤ (1048576)
  rotate_left
  · have hsz0 : szRes (1048576) l0.length = -1 := by unfold szRes; rw [if_pos (by omega)]
    go_enter Try.func11, Try.ntmps11
    go_wp2_with fail
    refine (szPS_any _ _ _ _ _ (by omega) (by omega) (by omega)).mono ?_
    rintro e w' ⟨rfl, rfl⟩
    rw [hsz0]
    go_wp2
    go_ret
    exact ⟨rfl, Below.refl _ _⟩
  · have hB0 : Below w.heap.size w w := by (repeat (first | with_reducible exact Below.refl _ _ | with_reducible assumption | with_reducible refine Below.setCell ?_ (by simp <;> omega) _ | with_reducible refine Below.alloc ?_ (by first | omega | (simp <;> omega)) _ | with_reducible refine Below.drew ?_ | with_reducible refine below_drewN ?_ _))
    have hsz0 : szRes (1048576) l0.length = (1048576) - (l0.length : Int) := by unfold szRes; rw [if_neg (by omega)]
    have hn0 : l0.length ≤ 1048576 := by omega
    go_enter Try.func11, Try.ntmps11
    go_wp2_with fail
    refine (szPS_any _ _ _ _ _ (by omega) (by omega) (by omega)).mono ?_
    rintro e w' ⟨rfl, rfl⟩
    rw [hsz0]
    clear hsz0
    go_wp2_with fail
    refine (toPS_at _ _ l0 _ ((h0.below hB0).more hB0.size) hn0).mono ?_
    rintro e w1 ⟨Bos, dos, rfl, kos, os, _, hb1⟩
    have hs1 := hb1.size
    have hB1 := hB0.trans (hb1.mono hB0.size)
    have tos := os.lt
    go_wp2_with fail
    refine (sPairedPicks_any Bos dos l0 _ (Own.rd' encP_len os) hn0 kos a1).mono ?_
    rintro e w2 ⟨Aw, cw, rfl, _, ow0, hb2⟩
    have hs2 := hb2.size
    have hB2 := hB1.trans (hb2.mono hB1.size)
    have os_2 := os.keep hb2
    clear os
    have ow := Lib.hid ow0
    clear ow0
    go_wp2_with fail
    refine (toPS_at _ _ l0 _ ((h0.below hB2).more hB2.size) hn0).mono ?_
    rintro e w3 ⟨Boi, doi, rfl, koi, oi, _, hb3⟩
    have hs3 := hb3.size
    have hB3 := hB2.trans (hb3.mono hB2.size)
    have os_3 := os_2.keep hb3
    clear os_2
    have ow_3 := Lib.hid (ow.out.keep (hb3.mono (by omega)))
    clear ow
    have toi := oi.lt
    go_wp2_with fail
    refine (PairedPicks_any Boi doi l0 _ (Own.rd' encP_len oi) hn0 a1).mono ?_
    rintro e w4 ⟨Ag, cg, rfl, _, og0, hb4⟩
    have hs4 := hb4.size
    have hB4 := hB3.trans (hb4.mono hB3.size)
    have os_4 := os_3.keep hb4
    clear os_3
    have ow_4 := Lib.hid (ow_3.out.keep (hb4.mono (by omega)))
    clear ow_3
    have oi_4 := oi.keep hb4
    clear oi
    have og := Lib.hid og0
    clear og0
    go_wp2_with fail
    refine (eqSS_any Ag Aw _ cg cw (prL l0 a1) _ _ _ _ _ og.out ow_4.out prL_len).mono ?_
    rintro e w5 ⟨rfl, hb5⟩
    have hs5 := hb5.size
    have hB5 := hB4.trans (hb5.mono hB4.size)
    have os_5 := os_4.keep hb5
    clear os_4
    have ow_5 := Lib.hid (ow_4.out.keep (hb5.mono (by omega)))
    clear ow_4
    have oi_5 := oi_4.keep hb5
    clear oi_4
    have og_5 := Lib.hid (og.out.keep (hb5.mono (by omega)))
    clear og
    go_wp2_with fail
    refine (toPS_at _ _ l0 _ ((h0.below hB5).more hB5.size) hn0).mono ?_
    rintro e w6 ⟨Boe, doe, rfl, koe, oe, _, hb6⟩
    have hs6 := hb6.size
    have hB6 := hB5.trans (hb6.mono hB5.size)
    have os_6 := os_5.keep hb6
    clear os_5
    have ow_6 := Lib.hid (ow_5.out.keep (hb6.mono (by omega)))
    clear ow_5
    have oi_6 := oi_5.keep hb6
    clear oi_5
    have og_6 := Lib.hid (og_5.out.keep (hb6.mono (by omega)))
    clear og_5
    have toe := oe.lt
    go_wp2_with fail
    refine (eqPS_any _ _ _ _ l0 l0 _ (Own.rd' encP_len oi_6) (Own.rd' encP_len oe) hn0).mono ?_
    rintro e w7 ⟨rfl, hb7⟩
    have hs7 := hb7.size
    have hB7 := hB6.trans (hb7.mono hB6.size)
    have os_7 := os_6.keep hb7
    clear os_6
    have ow_7 := Lib.hid (ow_6.out.keep (hb7.mono (by omega)))
    clear ow_6
    have oi_7 := oi_6.keep hb7
    clear oi_6
    have og_7 := Lib.hid (og_6.out.keep (hb7.mono (by omega)))
    clear og_6
    have oe_7 := oe.keep hb7
    clear oe
    rw [eqsP_iff.2 rfl]
    clear oe_7 os_7
    go_wp2_with fail
    refine (markPS_any _ _ _ _ _ _ _ oi_7 hn0 (by omega) (by omega)).mono ?_
    rintro e w8 ⟨rfl, _, hg8⟩
    have hs8 := hg8.size
    have hB8 := hB7.grown hg8 hB7.size (fun q hq => by have := (toi q hq).1; omega)
    have ow_8 := Lib.hid (ow_7.out.grown hg8 (fun q hq => by have h1 := toi q hq; omega))
    clear ow_7
    have og_8 := Lib.hid (og_7.out.grown hg8 (fun q hq => by have h1 := toi q hq; omega))
    clear og_7
    go_wp2_with fail
    refine (eqSS_any Ag Aw _ cg cw (prL l0 a1) _ _ _ _ _ og_8.out ow_8.out prL_len).mono ?_
    rintro e w9 ⟨rfl, hb9⟩
    have hs9 := hb9.size
    have hB9 := hB8.trans (hb9.mono hB8.size)
    have ow_9 := Lib.hid (ow_8.out.keep (hb9.mono (by omega)))
    clear ow_8
    have og_9 := Lib.hid (og_8.out.keep (hb9.mono (by omega)))
    clear og_8
    go_wp2_with fail
    refine (markSS_any Ag (prL l0 a1).length cg (prL l0 a1) _ _ 1 _ og_9.out prL_len (by omega) (by omega)).mono ?_
    rintro e w10 ⟨rfl, ogm0, hgb10⟩
    have hB10 := hB9.trans (hgb10.mono (by omega))
    have ogm := Lib.hid ogm0
    clear ogm0
    have ow_10 := Lib.hid (ow_9.out.keep (hgb10.mono (by omega)))
    clear ow_9 og_9
    have hs10 := hgb10.size
    go_wp2_with fail
    refine (heldSS_any Ag (prL l0 a1).length cg _ _ 1 _ ogm.out prL_len (by omega) (by omega)).mono ?_
    rintro e w' ⟨rfl, rfl⟩
    go_wp2_with fail
    refine (toPS_at _ _ l0 _ ((h0.below hB10).more hB10.size) hn0).mono ?_
    rintro e w11 ⟨Boh2, doh2, rfl, koh2, oh2, _, hb11⟩
    have hs11 := hb11.size
    have hB11 := hB10.trans (hb11.mono hB10.size)
    have ow_11 := Lib.hid (ow_10.out.keep (hb11.mono (by omega)))
    clear ow_10
    have ogm_11 := Lib.hid (ogm.out.keep (hb11.mono (by omega)))
    clear ogm
    have toh2 := oh2.lt
    go_wp2_with fail
    refine (PairedPicks_any Boh2 doh2 l0 _ (Own.rd' encP_len oh2) hn0 a1).mono ?_
    rintro e w12 ⟨Ah, ch, rfl, _, oh0, hb12⟩
    have hs12 := hb12.size
    have hB12 := hB11.trans (hb12.mono hB11.size)
    have ow_12 := Lib.hid (ow_11.out.keep (hb12.mono (by omega)))
    clear ow_11
    have ogm_12 := Lib.hid (ogm_11.out.keep (hb12.mono (by omega)))
    clear ogm_11
    have oh2_12 := oh2.keep hb12
    clear oh2
    have oh := Lib.hid oh0
    clear oh0
    go_wp2_with fail
    refine (eqSS_any Ah Aw _ ch cw (prL l0 a1) _ _ _ _ _ oh.out ow_12.out prL_len).mono ?_
    rintro e w13 ⟨rfl, hb13⟩
    have hs13 := hb13.size
    have hB13 := hB12.trans (hb13.mono hB12.size)
    have ow_13 := Lib.hid (ow_12.out.keep (hb13.mono (by omega)))
    clear ow_12
    have ogm_13 := Lib.hid (ogm_12.out.keep (hb13.mono (by omega)))
    clear ogm_12
    have oh2_13 := oh2_12.keep hb13
    clear oh2_12
    have oh_13 := Lib.hid (oh.out.keep (hb13.mono (by omega)))
    clear oh
    go_wp2_with fail
    refine (heldSS_any Ag (prL l0 a1).length cg _ _ 1 _ ogm_13.out prL_len (by omega) (by omega)).mono ?_
    rintro e w' ⟨rfl, rfl⟩
    go_wp2
    go_ret
    exact ⟨rfl, hB13⟩

end Go.Proofs.Ytiakaglgfboepaa
