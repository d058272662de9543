/-
  FnVotes: walked. (Printed by gen_D23.py.)
-/
import Derived.Test.YtdadcbcanjmoeaaDDf
import Derived.Test.YtdadcbcanjmoeaaRLib
import Derived.Test.YtdadcbcanjmoeaaRLibA
import Derived.Test.YtdadcbcanjmoeaaVoMath
import Derived.Deep.CutRange
import Derived.Deep.DeepCutAuto
import Derived.Deep.CutBlock
import Derived.BigQuiet
import Derived.Deep.RegionHeld3
namespace Go.Proofs.Ytdadcbcanjmoeaa
set_option linter.unusedVariables false
open Go.RowKit

set_option maxRecDepth 100000 in
set_option maxHeartbeats 8000000 in
theorem law_FnVotes (A0 : Option Addr) (c0 : Nat) (l0 : List Int) (w : World) (h0 : Rd encB 1 w w.heap.size A0 l0) (m0 : l0.length ≤ maxLen) (wf0 : ∀ n ∈ l0, (Lit.int .u8 n).wf = true) :
    Calls Try.prog 14 #[.slice A0 l0.length c0] w fun e w' => e = .returned (.bool true) ∧ Below w.heap.size w w' := by
  unfold maxLen at m0
  by_cases hbig : 65536 < (l0.length : Int)
  · go_enter Try.func14, Try.ntmps14
    go_wp2_with fail
    refine (vBig_any _ _ _ _ (by omega)).mono ?_
    rintro e w' ⟨rfl, rfl⟩
    rw [show decide (65536 < (l0.length : Int)) = true from decide_eq_true (by omega)]
    go_wp2
    go_ret
    exact ⟨rfl, Below.refl _ _⟩
  · have hl0 : l0.length ≤ 1048576 := by omega
    have Hby := Lib.hid (bytes_of wf0)
    have HR0 := Lib.hid (fun (W : World) (hW : Below w.heap.size w W) => (h0.below hW).more hW.size)
    clear wf0 h0
    go_enter Try.func14, Try.ntmps14
    go_wp2_with fail
    refine (vBig_any _ _ _ _ (by omega)).mono ?_
    rintro e w' ⟨rfl, rfl⟩
    rw [show decide (65536 < (l0.length : Int)) = false from decide_eq_false (by omega)]
    have HB0 := Lib.hid (Below.refl w.heap.size w)
    go_wp2_with fail
    refine (DrawVotersFor_any A0 c0 l0 _ (HR0.out _ HB0.out) hl0 Hby.out).mono ?_
    rintro e w1 ⟨Ax, cx, lx, ox, rfl, hllx, hcx, hown, hb1⟩
    have Ox := Lib.hid hown
    have hlx : lx.length ≤ 1048576 := by omega
    clear hown
    have hbk := hb1
    have HB1 := Lib.hid (HB0.out.trans (hb1.mono HB0.out.size))
    clear hb1
    clear hbk
    have hbx : Below w1.heap.size w1 (w1.alloc (.cells #[.int .i64 ox.x, .int .i64 ox.y, .int .i64 ox.tick] 39)) := by (repeat (first | with_reducible exact Below.refl _ _ | with_reducible assumption | with_reducible refine Below.setCell ?_ (by simp <;> omega) _ | with_reducible refine Below.alloc ?_ (by first | omega | (simp <;> omega)) _ | with_reducible refine Below.drew ?_ | with_reducible refine below_drewN ?_ _))
    have Xbo_1 : Hid (Blk (w1.alloc (.cells #[.int .i64 ox.x, .int .i64 ox.y, .int .i64 ox.tick] 39)) w1.heap.size 39 #[.int .i64 ox.x, .int .i64 ox.y, .int .i64 ox.tick]) := by have hq := Blk.new w1 39 #[.int .i64 ox.x, .int .i64 ox.y, .int .i64 ox.tick]; exact hq
    have HBx := Lib.hid (HB1.out.trans (hbx.mono HB1.out.size))
    clear HB1
    have HB1 := HBx
    clear HBx
    have Oxx := Lib.hid (Ox.out.keep hbx)
    clear Ox
    obtain ⟨bo0, bo1, bo2⟩ := box3 Xbo_1.out
    clear hbx
    obtain ⟨N, hN⟩ : ∃ z, VFids lx ox = z := ⟨_, rfl⟩
    have HN := Lib.hid hN
    clear hN
    obtain ⟨n, hn⟩ : ∃ z, VFn lx ox = z := ⟨_, rfl⟩
    have Hn := Lib.hid hn
    clear hn
    obtain ⟨ok, hok⟩ : ∃ z, okVF lx ox = z := ⟨_, rfl⟩
    have Hok := Lib.hid hok
    clear hok
    obtain ⟨ga, hga⟩ : ∃ z, goodAs lx = z := ⟨_, rfl⟩
    have Hga := Lib.hid hga
    clear hga
    obtain ⟨R, hR⟩ : ∃ z, WVl lx ox = z := ⟨_, rfl⟩
    have HR := Lib.hid hR
    clear hR
    obtain ⟨most, hmost⟩ : ∃ z, MVn lx ox.x ox.y = z := ⟨_, rfl⟩
    have Hmost := Lib.hid hmost
    clear hmost
    obtain ⟨mt, hmt⟩ : ∃ z, MVt lx ox.x ox.y = z := ⟨_, rfl⟩
    have Hmt := Lib.hid hmt
    clear hmt
    obtain ⟨two, htwo⟩ : ∃ z, MVk lx ox.x ox.y = z := ⟨_, rfl⟩
    have Htwo := Lib.hid htwo
    clear htwo
    have hN8 : N.length ≤ 8 := by rw [← HN.out]; exact VFids_len
    have hN : N.length ≤ 1048576 := by omega
    have hnN : n = (N.length : Int) := by
      rw [← Hn.out, ← HN.out, VFn, VFids]
      split
      · rw [List.length_map]
      · rfl
    have hnn : (n != (N.length : Int)) = false := by rw [hnN]; simp
    have HnN := Lib.hid hnN
    clear hnN
    have hf : ok = true → VoF lx ox N n R most two := fun h1 => by
      have h2 := vo_facts (Hok.out.trans h1)
      rw [HN.out, Hn.out, HR.out, Hmost.out, Htwo.out] at h2
      exact h2
    have Hf := Lib.hid hf
    clear hf
    go_wp2_with fail
    refine (VotersFor_any Ax cx lx ox _ (Own.rd' encA_len Oxx.out) hlx).mono ?_
    rintro e w2 ⟨Ag, cg, rfl, hcg, hog, hb2⟩
    have hbk := hb2
    have HB2 := Lib.hid (HB1.out.trans (hb2.mono HB1.out.size))
    have Ox_2 := Lib.hid (Oxx.out.keep hb2)
    clear hb2
    have Xbo_2 := Lib.hid (Xbo_1.out.after hbk)
    clear bo0 bo1 bo2
    obtain ⟨bo0, bo1, bo2⟩ := box3 Xbo_2.out
    clear hbk
    rw [HN.out] at hcg hog ⊢
    rw [Hok.out]
    have og := Lib.hid hog
    clear hog
    go_wp2_with fail
    refine (sVotersFor_any Ax cx lx ox _ (Own.rd' encA_len Ox_2.out) hlx).mono ?_
    rintro e w3 ⟨Av, cv, rfl, hcv, hov, hb3⟩
    have hbk := hb3
    have HB3 := Lib.hid (HB2.out.trans (hb3.mono HB2.out.size))
    have Ox_3 := Lib.hid (Ox_2.out.keep hb3)
    have og_3 := Lib.hid (og.out.keep hb3)
    clear hb3
    have Xbo_3 := Lib.hid (Xbo_2.out.after hbk)
    clear bo0 bo1 bo2
    obtain ⟨bo0, bo1, bo2⟩ := box3 Xbo_3.out
    clear hbk
    rw [HN.out] at hcv hov ⊢
    rw [Hok.out]
    have ov := Lib.hid hov
    clear hov
    go_wp2_with fail
    refine (vInts_any Ag Av cg cv N _ (Own.rd' encI_len og_3.out) (Own.rd' encI_len ov.out) hN).mono ?_
    rintro e w4 ⟨rfl, hb4⟩
    have hbk := hb4
    have HB4 := Lib.hid (HB3.out.trans (hb4.mono HB3.out.size))
    have Ox_4 := Lib.hid (Ox_3.out.keep hb4)
    have og_4 := Lib.hid (og_3.out.keep hb4)
    have ov_4 := Lib.hid (ov.out.keep hb4)
    clear hb4
    have Xbo_4 := Lib.hid (Xbo_3.out.after hbk)
    clear bo0 bo1 bo2
    obtain ⟨bo0, bo1, bo2⟩ := box3 Xbo_4.out
    clear hbk
    go_wp2_with fail
    refine (AreArrivals_any Ax cx lx _ (Own.rd' encA_len Ox_4.out) hlx).mono ?_
    rintro e w5 ⟨rfl, hb5⟩
    rw [Hga.out]
    have hbk := hb5
    have HB5 := Lib.hid (HB4.out.trans (hb5.mono HB4.out.size))
    have Ox_5 := Lib.hid (Ox_4.out.keep hb5)
    have og_5 := Lib.hid (og_4.out.keep hb5)
    clear hb5
    have Xbo_5 := Lib.hid (Xbo_4.out.after hbk)
    clear bo0 bo1 bo2
    obtain ⟨bo0, bo1, bo2⟩ := box3 Xbo_5.out
    clear hbk
    go_wp2_with fail
    refine (sAreArrivals_any Ax cx lx _ (Own.rd' encA_len Ox_5.out) hlx).mono ?_
    rintro e w6 ⟨rfl, hb6⟩
    rw [Hga.out]
    have hbk := hb6
    have HB6 := Lib.hid (HB5.out.trans (hb6.mono HB5.out.size))
    have Ox_6 := Lib.hid (Ox_5.out.keep hb6)
    have og_6 := Lib.hid (og_5.out.keep hb6)
    clear hb6
    have Xbo_6 := Lib.hid (Xbo_5.out.after hbk)
    clear bo0 bo1 bo2
    obtain ⟨bo0, bo1, bo2⟩ := box3 Xbo_6.out
    clear hbk
    go_wp2_with fail
    refine (VotesFor_any Ax cx lx ox _ (Own.rd' encA_len Ox_6.out) hlx).mono ?_
    rintro e w7 ⟨rfl, hb7⟩
    rw [Hn.out, Hok.out]
    have hbk := hb7
    have HB7 := Lib.hid (HB6.out.trans (hb7.mono HB6.out.size))
    have Ox_7 := Lib.hid (Ox_6.out.keep hb7)
    have og_7 := Lib.hid (og_6.out.keep hb7)
    clear hb7
    have Xbo_7 := Lib.hid (Xbo_6.out.after hbk)
    clear bo0 bo1 bo2
    obtain ⟨bo0, bo1, bo2⟩ := box3 Xbo_7.out
    clear hbk
    go_wp2_with fail
    refine (sVotesFor_any Ax cx lx ox _ (Own.rd' encA_len Ox_7.out) hlx).mono ?_
    rintro e w8 ⟨rfl, hb8⟩
    rw [Hn.out, Hok.out]
    have hbk := hb8
    have HB8 := Lib.hid (HB7.out.trans (hb8.mono HB7.out.size))
    have Ox_8 := Lib.hid (Ox_7.out.keep hb8)
    have og_8 := Lib.hid (og_7.out.keep hb8)
    clear hb8
    have Xbo_8 := Lib.hid (Xbo_7.out.after hbk)
    clear bo0 bo1 bo2
    obtain ⟨bo0, bo1, bo2⟩ := box3 Xbo_8.out
    clear hbk
    go_upto_region 10 with (fail)
    go_cut [111] (fun v wx => v = .bool false ∧ wx = w8)
    case first =>
      cases ok with
      | false =>
        go_wp2_with fail
        all_goals go_meet
        all_goals exact ⟨rfl, rfl⟩
      | true =>
        go_wp2_with fail
        all_goals go_meet
        all_goals exact ⟨rfl, rfl⟩
    case rest =>
      obtain ⟨rfl, hwc⟩ := hcut
      have hwd := hwc.symm
      subst hwd
      clear hnn
      go_upto_if 112 with (fail)
      go_cut [] (fun wx => Below w.heap.size w wx)
      case first =>
        cases ok with
        | false =>
          go_wp2_with fail
          all_goals go_meet
          all_goals exact HB8.out
        | true =>
          obtain ⟨f1, f2, f3, ⟨f4, f5⟩, f6, f7⟩ := Hf.out (by first | rfl | trivial)
          have Hf1 := Lib.hid f1
          have Hf2 := Lib.hid f2
          have Hf3 := Lib.hid f3
          have Hf5 := Lib.hid f5
          have Hf6 := Lib.hid f6
          clear f1 f2 f3 f5 f6
          go_wp2
          go_loopw [13] (fun i wr => ∃ k : Nat, k ≤ lx.length ∧ i = .int .i64 k ∧ Hid (Below w8.heap.size w8 wr)) (fun i _ => lx.length - (intOf i).toNat)
          case atStart => exact ⟨0, Nat.zero_le _, rfl, Below.refl _ _⟩
          case round =>
            obtain ⟨k, hkl, rfl, hbl⟩ := hrel
            by_cases hlt : k < lx.length
            · as_aux_lemma =>
                have hkz : (k : Int) < (lx.length : Int) := by omega
                have g1 := Hf1.out k hlt
                have HOr := Lib.hid (Ox_8.out.keep hbl.out)
                have HXr := Lib.hid (Xbo_8.out.after hbl.out)
                obtain ⟨b, off, hA, hb1, c0, c1, c2, c3, c4⟩ := cellsA (Own.rd' encA_len HOr.out) hlt
                subst hA
                generalize lx[k] = x at *
                obtain ⟨p0, p1, p2⟩ := box3 HXr.out
                have k0 := cell_regrown c0
                have k1 := cell_regrown c1
                have k2 := cell_regrown c2
                have k3 := cell_regrown c3
                have k4 := cell_regrown c4
                have k5 := cell_regrown p0
                have k6 := cell_regrown p1
                obtain ⟨lo9, hlo9⟩ : ∃ z, TFl x ox.x ox.y = z := ⟨_, rfl⟩
                obtain ⟨hi9, hhi9⟩ : ∃ z, TFh x ox.x ox.y = z := ⟨_, rfl⟩
                obtain ⟨t9, ht9⟩ : ∃ z, okTF x ox.x ox.y = z := ⟨_, rfl⟩
                rw [hlo9, hhi9, ht9] at g1
                have cV : ∀ d os, Calls Try.prog 30 #[.agg #[.int .i64 x.id, .int .i64 x.x, .int .i64 x.y, .int .i64 x.tick, .int .i64 x.err], .int .i64 ox.x, .int .i64 ox.y] (Go.Sort.grow (redrawn wr d) os) fun e w'' => e = .returned (.tuple #[.int .i64 lo9, .int .i64 hi9, .bool t9]) ∧ ∃ p : Regrown, w'' = Go.Sort.grow (redrawn wr p.d) p.os := fun d os => by
                  have q := TicksThatFit_any x ox.x ox.y (Go.Sort.grow (redrawn wr d) os)
                  rw [hlo9, hhi9, ht9] at q
                  exact Calls.regrown_of q
                have HcV := Lib.hid cV
                have Hg1 := Lib.hid g1
                clear cV g1 hlo9 hhi9 ht9
                go_wp2_with fail
                refine wp_region_quiet_below (by kernel_rfl) (by kernel_rfl) ?_
                repeat (go_big_quiet_step ((exact HcV.out _ _)))
                refine wpQuiet_nil ?_
                intro _ hw'
                obtain ⟨⟨dq, osq⟩, hw''⟩ := hw'
                subst hw''
                have hb5 := below_regrown wr dq osq
                have HB5 := Lib.hid (hbl.out.trans (hb5.mono hbl.out.size))
                have q0 := k0 dq osq
                have HX5 := Lib.hid (HXr.out.after hb5)
                have HO5 := Lib.hid (HOr.out.keep hb5)
                have og5 := Lib.hid ((og_8.out.keep hbl.out).keep hb5)
                have c0' := keepCell hb5 c0
                clear k0 k1 k2 k3 k4 k5 k6 q0 c0 c1 c2 c3 c4 p0 p1 p2 HcV
                generalize Go.Sort.grow (redrawn wr dq) osq = w5 at *
                obtain ⟨p0, p1, p2⟩ := box3 HX5.out
                clear hb5
                as_aux_lemma =>
                  have hg2 := Hg1.out
                  cases t9 with
                  | false =>
                    have hv : N.any (· == x.id) = false := hg2
                    have Hv := Lib.hid hv
                    clear hv
                    go_wp2_with fail
                    refine (vHas_any Ag cg N x.id _ _ (Own.rd' encI_len og5.out) hN).mono ?_
                    rintro e w' ⟨rfl, rfl⟩
                    rw [Hv.out]
                    go_wp2
                    go_roundw
                    case rel => exact ⟨k + 1, by omega, by go_num, HB5.out⟩
                    case measure => simp [intOf]; omega
                  | true =>
                    by_cases d1 : lo9 ≤ ox.tick
                    · have hv : N.any (· == x.id) = decide (ox.tick ≤ hi9) := by rw [hg2, decide_eq_true d1]; rfl
                      obtain ⟨bz, hbz⟩ : ∃ z, decide (ox.tick ≤ hi9) = z := ⟨_, rfl⟩
                      rw [hbz] at hv
                      have Hv := Lib.hid hv
                      clear hv
                      go_wp2_with fail
                      refine (vHas_any Ag cg N x.id _ _ (Own.rd' encI_len og5.out) hN).mono ?_
                      rintro e w' ⟨rfl, rfl⟩
                      rw [Hv.out]
                      go_wp2
                      go_roundw
                      case rel => exact ⟨k + 1, by omega, by go_num, HB5.out⟩
                      case measure => simp [intOf]; omega
                    · have hv : N.any (· == x.id) = false := by rw [hg2, decide_eq_false d1, Bool.false_and, Bool.and_false]
                      have d1d : decide (lo9 ≤ ox.tick) = false := decide_eq_false d1
                      clear d1
                      have Hv := Lib.hid hv
                      clear hv
                      go_wp2_with fail
                      refine (vHas_any Ag cg N x.id _ _ (Own.rd' encI_len og5.out) hN).mono ?_
                      rintro e w' ⟨rfl, rfl⟩
                      rw [Hv.out]
                      go_wp2
                      go_roundw
                      case rel => exact ⟨k + 1, by omega, by go_num, HB5.out⟩
                      case measure => simp [intOf]; omega
            · as_aux_lemma =>
                have hkz : ¬ (k : Int) < (lx.length : Int) := by omega
                obtain ⟨w1n, rfl⟩ : ∃ w1n : World, w1n = wr := ⟨_, rfl⟩
                have HB1n := Lib.hid (HB8.out.trans (hbl.out.mono HB8.out.size))
                have HO1n := Lib.hid (Ox_8.out.keep hbl.out)
                have HX1n := Lib.hid (Xbo_8.out.after hbl.out)
                clear hbl
                clear bo0 bo1 bo2
                obtain ⟨bo0, bo1, bo2⟩ := box3 HX1n.out
                go_wp2_with fail
                refine (MostVotesAt_any Ax cx lx ox.x ox.y _ (Own.rd' encA_len HO1n.out) hlx).mono ?_
                rintro e wa ⟨rfl, hba⟩
                rw [Hmost.out, Hmt.out, Htwo.out]
                have HBa := Lib.hid (HB1n.out.trans (hba.mono HB1n.out.size))
                have HOa := Lib.hid (HO1n.out.keep hba)
                have HXa := Lib.hid (HX1n.out.after hba)
                clear hba bo0 bo1 bo2
                obtain ⟨bo0, bo1, bo2⟩ := box3 HXa.out
                go_wp2_with fail
                refine (WithoutVoters_any Ax cx lx ox _ (Own.rd' encA_len HOa.out) hlx).mono ?_
                rintro e wb ⟨Ar, cr, rfl, hcr, _, hbb⟩
                rw [HR.out] at hcr ⊢
                rw [Hok.out]
                have HBb := Lib.hid (HBa.out.trans (hbb.mono HBa.out.size))
                clear hbb bo0 bo1 bo2
                have hre := Hf6.out
                have hnN := Hf5.out
                have hre2 : ((R.length : Int) + n != (lx.length : Int)) = false := by rw [hre]; simp
                have hn8 : n ≤ 8 := by omega
                have hR8 : R.length ≤ 8 := by omega
                clear hre hnN
                obtain ⟨rl, hrl⟩ : ∃ rl, R.length = rl := ⟨_, rfl⟩
                rw [hrl] at hre2 hR8 ⊢
                clear hrl
                go_upto_region 21 with (fail)
                go_cut [195] (fun v wx => v = .bool false ∧ wx = wb)
                case first =>
                  cases two with
                  | true =>
                    have h9 := Hf2.out (by first | rfl | trivial)
                    have h8 : decide (most < n) = false := decide_eq_false (by omega)
                    clear h9
                    go_wp2
                    all_goals go_meet
                    all_goals exact ⟨rfl, rfl⟩
                  | false =>
                    have h9 := Hf3.out (by first | rfl | trivial)
                    have h8 : decide (0 < n) = false := decide_eq_false (by omega)
                    have h7 : decide (n > 0) = false := decide_eq_false (by omega)
                    clear h9
                    go_wp2
                    all_goals go_meet
                    all_goals exact ⟨rfl, rfl⟩
                case rest =>
                  obtain ⟨rfl, hwc⟩ := hcut
                  have hwd := hwc.symm
                  subst hwd
                  go_wp2
                  all_goals go_meet
                  all_goals exact HBb.out
      case rest =>
        as_aux_lemma =>
          obtain ⟨w60, rfl⟩ : ∃ w60 : World, w60 = wc := ⟨_, rfl⟩
          have HB60 := Lib.hid hcut
          clear hcut
          clear bo0 bo1 bo2 HN Hn Hok Hga HR Hmost Hmt Htwo HnN Hf
          go_wp2_with fail
          refine (DrawDoesFit_any A0 c0 l0 _ (HR0.out _ HB60.out) hl0 Hby.out).mono ?_
          rintro e w61 ⟨a, p, rfl, hb61⟩
          have hbk := hb61
          have HB61 := Lib.hid (HB60.out.trans (hb61.mono HB60.out.size))
          clear hb61
          clear hbk
          have hbx : Below w61.heap.size w61 (w61.alloc (.cells #[.int .i64 a.id, .int .i64 a.x, .int .i64 a.y, .int .i64 a.tick, .int .i64 a.err] 37)) := by (repeat (first | with_reducible exact Below.refl _ _ | with_reducible assumption | with_reducible refine Below.setCell ?_ (by simp <;> omega) _ | with_reducible refine Below.alloc ?_ (by first | omega | (simp <;> omega)) _ | with_reducible refine Below.drew ?_ | with_reducible refine below_drewN ?_ _))
          have Xba_61 : Hid (Blk (w61.alloc (.cells #[.int .i64 a.id, .int .i64 a.x, .int .i64 a.y, .int .i64 a.tick, .int .i64 a.err] 37)) w61.heap.size 37 #[.int .i64 a.id, .int .i64 a.x, .int .i64 a.y, .int .i64 a.tick, .int .i64 a.err]) := by have hq := Blk.new w61 37 #[.int .i64 a.id, .int .i64 a.x, .int .i64 a.y, .int .i64 a.tick, .int .i64 a.err]; exact hq
          have HBx := Lib.hid (HB61.out.trans (hbx.mono HB61.out.size))
          clear HB61
          have HB61 := HBx
          clear HBx
          obtain ⟨ba0, ba1, ba2, ba3, ba4⟩ := box5 Xba_61.out
          clear hbx
          have hbx : Below (w61.alloc (.cells #[.int .i64 a.id, .int .i64 a.x, .int .i64 a.y, .int .i64 a.tick, .int .i64 a.err] 37)).heap.size (w61.alloc (.cells #[.int .i64 a.id, .int .i64 a.x, .int .i64 a.y, .int .i64 a.tick, .int .i64 a.err] 37)) ((w61.alloc (.cells #[.int .i64 a.id, .int .i64 a.x, .int .i64 a.y, .int .i64 a.tick, .int .i64 a.err] 37)).alloc (.cells #[.int .i64 p.x, .int .i64 p.y, .int .i64 p.tick] 39)) := by (repeat (first | with_reducible exact Below.refl _ _ | with_reducible assumption | with_reducible refine Below.setCell ?_ (by simp <;> omega) _ | with_reducible refine Below.alloc ?_ (by first | omega | (simp <;> omega)) _ | with_reducible refine Below.drew ?_ | with_reducible refine below_drewN ?_ _))
          have Xbp_61 : Hid (Blk ((w61.alloc (.cells #[.int .i64 a.id, .int .i64 a.x, .int .i64 a.y, .int .i64 a.tick, .int .i64 a.err] 37)).alloc (.cells #[.int .i64 p.x, .int .i64 p.y, .int .i64 p.tick] 39)) (w61.heap.size + 1) 39 #[.int .i64 p.x, .int .i64 p.y, .int .i64 p.tick]) := by have hq := Blk.new (w61.alloc (.cells #[.int .i64 a.id, .int .i64 a.x, .int .i64 a.y, .int .i64 a.tick, .int .i64 a.err] 37)) 39 #[.int .i64 p.x, .int .i64 p.y, .int .i64 p.tick]; simp at hq; exact hq
          have HBx := Lib.hid (HB61.out.trans (hbx.mono HB61.out.size))
          clear HB61
          have HB61 := HBx
          clear HBx
          have Xba_61x := Lib.hid (Xba_61.out.after hbx)
          clear ba0 ba1 ba2 ba3 ba4 Xba_61
          obtain ⟨ba0, ba1, ba2, ba3, ba4⟩ := box5 Xba_61x.out
          obtain ⟨bp0, bp1, bp2⟩ := box3 Xbp_61.out
          clear hbx
          obtain ⟨fits, hfits⟩ : ∃ z, DFv a p = z := ⟨_, rfl⟩
          have Hfits := Lib.hid hfits
          clear hfits
          obtain ⟨fine, hfine⟩ : ∃ z, okDF a p = z := ⟨_, rfl⟩
          have Hfine := Lib.hid hfine
          clear hfine
          go_wp2_with fail
          refine (DoesFit_any a p _).mono ?_
          rintro e w62 ⟨rfl, hb62⟩
          rw [Hfits.out, Hfine.out]
          have hbk := hb62
          have HB62 := Lib.hid (HB61.out.trans (hb62.mono HB61.out.size))
          clear hb62
          have Xba_62 := Lib.hid (Xba_61x.out.after hbk)
          clear ba0 ba1 ba2 ba3 ba4
          obtain ⟨ba0, ba1, ba2, ba3, ba4⟩ := box5 Xba_62.out
          have Xbp_62 := Lib.hid (Xbp_61.out.after hbk)
          clear bp0 bp1 bp2
          obtain ⟨bp0, bp1, bp2⟩ := box3 Xbp_62.out
          clear hbk
          go_wp2_with fail
          refine (sDoesFit_any a p _).mono ?_
          rintro e w63 ⟨rfl, hb63⟩
          rw [Hfits.out, Hfine.out]
          have hbk := hb63
          have HB63 := Lib.hid (HB62.out.trans (hb63.mono HB62.out.size))
          clear hb63
          have Xba_63 := Lib.hid (Xba_62.out.after hbk)
          clear ba0 ba1 ba2 ba3 ba4
          obtain ⟨ba0, ba1, ba2, ba3, ba4⟩ := box5 Xba_63.out
          have Xbp_63 := Lib.hid (Xbp_62.out.after hbk)
          clear bp0 bp1 bp2
          obtain ⟨bp0, bp1, bp2⟩ := box3 Xbp_63.out
          clear hbk
          clear ba0 ba1 ba2 ba3 ba4 Xba_63
          clear bp0 bp1 bp2 Xbp_63
          go_wp2_with fail
          refine (DrawTicksThatFit_any A0 c0 l0 _ (HR0.out _ HB63.out) hl0 Hby.out).mono ?_
          rintro e w64 ⟨b, tx, ty, rfl, hb64⟩
          have hbk := hb64
          have HB64 := Lib.hid (HB63.out.trans (hb64.mono HB63.out.size))
          clear hb64
          clear hbk
          have hbx : Below w64.heap.size w64 (w64.alloc (.cells #[.int .i64 b.id, .int .i64 b.x, .int .i64 b.y, .int .i64 b.tick, .int .i64 b.err] 37)) := by (repeat (first | with_reducible exact Below.refl _ _ | with_reducible assumption | with_reducible refine Below.setCell ?_ (by simp <;> omega) _ | with_reducible refine Below.alloc ?_ (by first | omega | (simp <;> omega)) _ | with_reducible refine Below.drew ?_ | with_reducible refine below_drewN ?_ _))
          have Xbb_64 : Hid (Blk (w64.alloc (.cells #[.int .i64 b.id, .int .i64 b.x, .int .i64 b.y, .int .i64 b.tick, .int .i64 b.err] 37)) w64.heap.size 37 #[.int .i64 b.id, .int .i64 b.x, .int .i64 b.y, .int .i64 b.tick, .int .i64 b.err]) := by have hq := Blk.new w64 37 #[.int .i64 b.id, .int .i64 b.x, .int .i64 b.y, .int .i64 b.tick, .int .i64 b.err]; exact hq
          have HBx := Lib.hid (HB64.out.trans (hbx.mono HB64.out.size))
          clear HB64
          have HB64 := HBx
          clear HBx
          obtain ⟨bb0, bb1, bb2, bb3, bb4⟩ := box5 Xbb_64.out
          clear hbx
          obtain ⟨lo, hlo⟩ : ∃ z, TFl b tx ty = z := ⟨_, rfl⟩
          have Hlo := Lib.hid hlo
          clear hlo
          obtain ⟨hi, hhi⟩ : ∃ z, TFh b tx ty = z := ⟨_, rfl⟩
          have Hhi := Lib.hid hhi
          clear hhi
          obtain ⟨known, hknown⟩ : ∃ z, okTF b tx ty = z := ⟨_, rfl⟩
          have Hknown := Lib.hid hknown
          clear hknown
          have hkn : known = true → lo ≤ hi := fun h1 => by
            have h2 := Hknown.out.trans h1
            rw [← Hlo.out, ← Hhi.out, TFl, TFh, if_pos h2, if_pos h2]
            simp only [okTF, Bool.and_eq_true, decide_eq_true_eq] at h2
            exact h2.2
          have Hkn := Lib.hid hkn
          clear hkn
          go_wp2_with fail
          refine (TicksThatFit_any b tx ty _).mono ?_
          rintro e w65 ⟨rfl, hb65⟩
          rw [Hlo.out, Hhi.out, Hknown.out]
          have hbk := hb65
          have HB65 := Lib.hid (HB64.out.trans (hb65.mono HB64.out.size))
          clear hb65
          have Xbb_65 := Lib.hid (Xbb_64.out.after hbk)
          clear bb0 bb1 bb2 bb3 bb4
          obtain ⟨bb0, bb1, bb2, bb3, bb4⟩ := box5 Xbb_65.out
          clear hbk
          go_wp2_with fail
          refine (sTicksThatFit_any b tx ty _).mono ?_
          rintro e w66 ⟨rfl, hb66⟩
          rw [Hlo.out, Hhi.out, Hknown.out]
          have hbk := hb66
          have HB66 := Lib.hid (HB65.out.trans (hb66.mono HB65.out.size))
          clear hb66
          have Xbb_66 := Lib.hid (Xbb_65.out.after hbk)
          clear bb0 bb1 bb2 bb3 bb4
          obtain ⟨bb0, bb1, bb2, bb3, bb4⟩ := box5 Xbb_66.out
          clear hbk
          clear bb0 bb1 bb2 bb3 bb4 Xbb_66
          go_upto_region 31 with (fail)
          go_cut [263] (fun v wx => v = .bool false ∧ wx = w66)
          case first =>
            cases known with
            | false =>
              go_wp2_with fail
              all_goals go_meet
              all_goals exact ⟨rfl, rfl⟩
            | true =>
              have h9 := Hkn.out (by first | rfl | trivial)
              have h8 : ¬ lo > hi := by omega
              have h7 : ¬ hi < lo := by omega
              go_wp2_with fail
              all_goals go_meet
              all_goals exact ⟨rfl, rfl⟩
          case rest =>
            obtain ⟨rfl, hwc⟩ := hcut
            have hwd := hwc.symm
            subst hwd
            clear Hkn Hlo Hhi Hknown Hfits Hfine
            go_wp2_with fail
            refine (DrawWithoutVoters_any A0 c0 l0 _ (HR0.out _ HB66.out) hl0 Hby.out).mono ?_
            rintro e w67 ⟨Az, cz, lz, oz, rfl, hllz, hcz, hown, hb67⟩
            have Oz := Lib.hid hown
            have hlz : lz.length ≤ 1048576 := by omega
            clear hown
            have hbk := hb67
            have HB67 := Lib.hid (HB66.out.trans (hb67.mono HB66.out.size))
            clear hb67
            clear hbk
            have hbx : Below w67.heap.size w67 (w67.alloc (.cells #[.int .i64 oz.x, .int .i64 oz.y, .int .i64 oz.tick] 39)) := by (repeat (first | with_reducible exact Below.refl _ _ | with_reducible assumption | with_reducible refine Below.setCell ?_ (by simp <;> omega) _ | with_reducible refine Below.alloc ?_ (by first | omega | (simp <;> omega)) _ | with_reducible refine Below.drew ?_ | with_reducible refine below_drewN ?_ _))
            have Xbz_67 : Hid (Blk (w67.alloc (.cells #[.int .i64 oz.x, .int .i64 oz.y, .int .i64 oz.tick] 39)) w67.heap.size 39 #[.int .i64 oz.x, .int .i64 oz.y, .int .i64 oz.tick]) := by have hq := Blk.new w67 39 #[.int .i64 oz.x, .int .i64 oz.y, .int .i64 oz.tick]; exact hq
            have HBx := Lib.hid (HB67.out.trans (hbx.mono HB67.out.size))
            clear HB67
            have HB67 := HBx
            clear HBx
            have Ozx := Lib.hid (Oz.out.keep hbx)
            clear Oz
            obtain ⟨bz0, bz1, bz2⟩ := box3 Xbz_67.out
            clear hbx
            obtain ⟨R2, hR2⟩ : ∃ z, WVl lz oz = z := ⟨_, rfl⟩
            have HR2 := Lib.hid hR2
            clear hR2
            obtain ⟨some, hsome⟩ : ∃ z, okVF lz oz = z := ⟨_, rfl⟩
            have Hsome := Lib.hid hsome
            clear hsome
            have hR2 : R2.length ≤ 8 := by rw [← HR2.out]; exact WVl_len
            have hR3 : R2.length ≤ 1048576 := by omega
            go_wp2_with fail
            refine (WithoutVoters_any Az cz lz oz _ (Own.rd' encA_len Ozx.out) hlz).mono ?_
            rintro e w68 ⟨Ac, cc, rfl, hcc, hoc, hb68⟩
            have hbk := hb68
            have HB68 := Lib.hid (HB67.out.trans (hb68.mono HB67.out.size))
            have Oz_68 := Lib.hid (Ozx.out.keep hb68)
            clear hb68
            have Xbz_68 := Lib.hid (Xbz_67.out.after hbk)
            clear bz0 bz1 bz2
            obtain ⟨bz0, bz1, bz2⟩ := box3 Xbz_68.out
            clear hbk
            rw [HR2.out] at hcc hoc ⊢
            rw [Hsome.out]
            have oc := Lib.hid hoc
            clear hoc
            go_wp2_with fail
            refine (sWithoutVoters_any Az cz lz oz _ (Own.rd' encA_len Oz_68.out) hlz).mono ?_
            rintro e w69 ⟨Ad, cd, rfl, hcd, hod, hb69⟩
            have hbk := hb69
            have HB69 := Lib.hid (HB68.out.trans (hb69.mono HB68.out.size))
            have Oz_69 := Lib.hid (Oz_68.out.keep hb69)
            have oc_69 := Lib.hid (oc.out.keep hb69)
            clear hb69
            have Xbz_69 := Lib.hid (Xbz_68.out.after hbk)
            clear bz0 bz1 bz2
            obtain ⟨bz0, bz1, bz2⟩ := box3 Xbz_69.out
            clear hbk
            rw [HR2.out] at hcd hod ⊢
            rw [Hsome.out]
            have od := Lib.hid hod
            clear hod
            clear bz0 bz1 bz2 Xbz_69
            go_wp2_with fail
            refine (vArrivals_any Ac Ad cc cd R2 _ (Own.rd' encA_len oc_69.out) (Own.rd' encA_len od.out) hR3).mono ?_
            rintro e w70 ⟨rfl, hb70⟩
            have hbk := hb70
            have HB70 := Lib.hid (HB69.out.trans (hb70.mono HB69.out.size))
            have oc_70 := Lib.hid (oc_69.out.keep hb70)
            have od_70 := Lib.hid (od.out.keep hb70)
            clear hb70
            clear hbk
            go_wp2
            go_ret
            exact ⟨rfl, HB70.out⟩

end Go.Proofs.Ytdadcbcanjmoeaa
