/-
  FnSmoothing: walked. (Printed by gen_F8.py.)
-/
import Derived.Test.YtabnnkallgcmgaaDF
import Derived.Test.YtabnnkallgcmgaaWb
import Derived.Test.YtabnnkallgcmgaaTpn
import Derived.Test.YtabnnkallgcmgaaEvN
import Derived.Test.YtabnnkallgcmgaaWtd
import Derived.Test.YtabnnkallgcmgaaSmth
import Derived.Test.YtabnnkallgcmgaaClipS
import Derived.Test.YtabnnkallgcmgaaCombS
import Derived.Test.YtabnnkallgcmgaaMmI
import Derived.Test.YtabnnkallgcmgaaMmS
import Derived.Test.YtabnnkallgcmgaaRVW
import Derived.Test.YtabnnkallgcmgaaRLib
import Derived.Test.YtabnnkallgcmgaaMSumsS
import Derived.Deep.CutRange
import Derived.Deep.DeepCutAuto
import Derived.Deep.CutBlock
import Derived.Test.YtabnnkallgcmgaaSmLaw
import Derived.Deep.QuietTactic
namespace Go.Proofs.Ytabnnkallgcmgaa
set_option linter.unusedVariables false
open Go.RowKit

set_option maxRecDepth 100000 in
set_option maxHeartbeats 8000000 in
theorem law_FnSmoothing (A0 : Option Addr) (c0 : Nat) (l0 : List Int) (w : World) (h0 : Rd encB 1 w w.heap.size A0 l0) (m0 : l0.length ≤ maxLen) (wf0 : ∀ n ∈ l0, (Lit.int .u8 n).wf = true) :
    Calls Try.prog 8 #[.slice A0 l0.length c0] w fun e w' => e = .returned (.bool true) ∧ Below w.heap.size w w' := by
  unfold maxLen at m0
  by_cases hbig : 65536 < (l0.length : Int)
  · go_enter Try.func8, Try.ntmps8
    go_wp2_with fail
    refine (vBig_any _ _ _ _ (by omega)).mono ?_
    rintro e w' ⟨rfl, rfl⟩
    rw [show decide (65536 < (l0.length : Int)) = true from decide_eq_true (by omega)]
    go_wp2
    go_ret
    exact ⟨rfl, Below.refl _ _⟩
  · have hl0 : l0.length ≤ 1048576 := by omega
    have Hby := Lib.hid (bytes_of wf0)
    have HR0 := Lib.hid (fun (W : World) (hW : Below w.heap.size w W) => (h0.below hW).more hW.size)
    clear wf0 h0
    go_enter Try.func8, Try.ntmps8
    go_wp2_with fail
    refine (vBig_any _ _ _ _ (by omega)).mono ?_
    rintro e w' ⟨rfl, rfl⟩
    rw [show decide (65536 < (l0.length : Int)) = false from decide_eq_false (by omega)]
    have HB0 := Lib.hid (Below.refl w.heap.size w)
    go_wp2_with fail
    refine (DrawMovingMedians_any A0 c0 l0 _ (HR0.out _ HB0.out) hl0 Hby.out).mono ?_
    rintro e w1 ⟨Ax, cx, lx, r, rfl, hllx, hcx, hown, hb1⟩
    have Ox := Lib.hid hown
    have hlx : lx.length ≤ 1048576 := by omega
    clear hown
    have HB1 := Lib.hid (HB0.out.trans (hb1.mono HB0.out.size))
    clear hb1
    obtain ⟨M, hM⟩ : ∃ z, evL 0 3 mmF lx r = z := ⟨_, rfl⟩
    have HM := Lib.hid hM
    clear hM
    obtain ⟨ok, hok⟩ : ∃ z, okA 0 3 lx r = z := ⟨_, rfl⟩
    have Hok := Lib.hid hok
    clear hok
    have hM : M.length ≤ 1048576 := by rw [← HM.out]; exact evL_len
    have hmw : ∀ z ∈ M, lx.any (· == z) = true := by rw [← HM.out]; exact mm_within
    have Hmw := Lib.hid hmw
    clear hmw
    go_wp2_with fail
    refine (MovingMedians_any Ax cx lx r _ (Own.rd' encI_len Ox.out) hlx hcx).mono ?_
    rintro e w2 ⟨Ag, cg, rfl, hcg, hog, hb2⟩
    have HB2 := Lib.hid (HB1.out.trans (hb2.mono HB1.out.size))
    have Ox_2 := Lib.hid (Ox.out.keep hb2)
    clear hb2
    rw [HM.out] at hcg hog ⊢
    rw [Hok.out]
    have og := Lib.hid hog
    clear hog
    go_wp2_with fail
    refine (sMovingMedians_any Ax cx lx r _ (Own.rd' encI_len Ox_2.out) hlx hcx).mono ?_
    rintro e w3 ⟨Aw, cw, rfl, hcw, how, hb3⟩
    have HB3 := Lib.hid (HB2.out.trans (hb3.mono HB2.out.size))
    have Ox_3 := Lib.hid (Ox_2.out.keep hb3)
    have og_3 := Lib.hid (og.out.keep hb3)
    clear hb3
    rw [HM.out] at hcw how ⊢
    rw [Hok.out]
    have ow := Lib.hid how
    clear how
    go_wp2_with fail
    refine (vInts_any Ag Aw cg cw M _ (Own.rd' encI_len og_3.out) (Own.rd' encI_len ow.out) hM).mono ?_
    rintro e w4 ⟨rfl, hb4⟩
    have HB4 := Lib.hid (HB3.out.trans (hb4.mono HB3.out.size))
    have Ox_4 := Lib.hid (Ox_3.out.keep hb4)
    have og_4 := Lib.hid (og_3.out.keep hb4)
    have ow_4 := Lib.hid (ow.out.keep hb4)
    clear hb4
    go_wp2_with fail
    refine (vWithin_any Ag Ax cg cx M lx _ w4.heap.size w4.heap.size (Own.rd' encI_len og_4.out) (Own.rd' encI_len Ox_4.out) hM hlx Hmw.out).mono ?_
    rintro e w' ⟨rfl, rfl⟩
    go_wp2_with fail
    refine (DrawSmoothed_any A0 c0 l0 _ (HR0.out _ HB4.out) hl0 Hby.out).mono ?_
    rintro e w5 ⟨Ay, cy, ly, k, rfl, hlly, hcy, hown, hb5⟩
    have Oy := Lib.hid hown
    have hly : ly.length ≤ 1048576 := by omega
    clear hown
    have HB5 := Lib.hid (HB4.out.trans (hb5.mono HB4.out.size))
    clear hb5
    obtain ⟨S, hS⟩ : ∃ z, smL ly k = z := ⟨_, rfl⟩
    have HS := Lib.hid hS
    clear hS
    obtain ⟨told, htold⟩ : ∃ z, okSm ly k = z := ⟨_, rfl⟩
    have Htold := Lib.hid htold
    clear htold
    have hS : S.length ≤ 1048576 := by rw [← HS.out]; exact smL_len
    have hf : told = true → 1 ≤ k ∧ ∀ i (hi : i < ly.length), ∃ hi' : i < S.length, S[i] = smo ly k i := fun h1 => by
      have h2 := Htold.out.trans h1
      obtain ⟨_, h3, _⟩ := okSm_iff.1 h2
      refine ⟨h3, fun i hi => ?_⟩
      obtain ⟨h4, h5⟩ := smL_at h2 hi
      have e := HS.out
      subst e
      exact ⟨h4, h5⟩
    have Hf := Lib.hid hf
    clear hf
    go_wp2_with fail
    refine (Smoothed_any Ay cy ly k _ (Own.rd' encI_len Oy.out) hly hcy).mono ?_
    rintro e w6 ⟨Au, cu, rfl, hcu, hou, hb6⟩
    have HB6 := Lib.hid (HB5.out.trans (hb6.mono HB5.out.size))
    have Oy_6 := Lib.hid (Oy.out.keep hb6)
    clear hb6
    rw [HS.out] at hcu hou ⊢
    rw [Htold.out]
    have ou := Lib.hid hou
    clear hou
    go_wp2_with fail
    refine (sSmoothed_any Ay cy ly k _ (Own.rd' encI_len Oy_6.out) hly hcy).mono ?_
    rintro e w7 ⟨Av, cv, rfl, hcv, hov, hb7⟩
    have HB7 := Lib.hid (HB6.out.trans (hb7.mono HB6.out.size))
    have Oy_7 := Lib.hid (Oy_6.out.keep hb7)
    have ou_7 := Lib.hid (ou.out.keep hb7)
    clear hb7
    rw [HS.out] at hcv hov ⊢
    rw [Htold.out]
    have ov := Lib.hid hov
    clear hov
    go_wp2_with fail
    refine (vInts_any Au Av cu cv S _ (Own.rd' encI_len ou_7.out) (Own.rd' encI_len ov.out) hS).mono ?_
    rintro e w8 ⟨rfl, hb8⟩
    have HB8 := Lib.hid (HB7.out.trans (hb8.mono HB7.out.size))
    have Oy_8 := Lib.hid (Oy_7.out.keep hb8)
    have ou_8 := Lib.hid (ou_7.out.keep hb8)
    have ov_8 := Lib.hid (ov.out.keep hb8)
    clear hb8
    go_upto_block 0 with (fail)
    go_cut [] (fun wx => wx = w8)
    case first =>
      go_wp2_with fail
      go_loopw [15, 16, 17] (fun a b i wr => ∃ (q : Nat) (lo hi : Int), q ≤ ly.length ∧ i = .int .i64 q ∧ a = .int .i64 lo ∧ b = .int .i64 hi ∧ Hid (∀ j (hj : j < ly.length), j < q → lo ≤ ly[j] ∧ ly[j] ≤ hi) ∧ wr = w8) (fun _ _ i _ => ly.length - (intOf i).toNat)
      case atStart => exact ⟨0, 100000, -100000, Nat.zero_le _, rfl, rfl, rfl, (fun j hj h => absurd h (Nat.not_lt_zero _)), rfl⟩
      case round =>
        obtain ⟨q, lo, hi, hql, rfl, rfl, rfl, Hin, rfl⟩ := hrel
        by_cases hlt : q < ly.length
        · have hqz : (q : Int) < (ly.length : Int) := by omega
          cases told with
          | false =>
            go_wp2
            all_goals go_meet
            all_goals first | exact rfl | trivial
          | true =>
            obtain ⟨hk1, f2⟩ := Hf.out (by first | rfl | trivial)
            obtain ⟨h1, hsq⟩ := f2 q hlt
            have hlq0 : ∃ z, ly[q] = z := ⟨_, rfl⟩
            obtain ⟨x, hx⟩ := hlq0
            have Hlq := Lib.hid hx
            have hrun := fun lo' hi' (hb : ∀ j (hj : j < ly.length), j ≤ q → lo' ≤ ly[j] ∧ ly[j] ≤ hi') => smo_run hk1 q hlt hb
            rw [← hsq] at hrun
            obtain ⟨b, off, hA, hb1, x0⟩ := cellsI (Own.rd' encI_len Oy_8.out) hlt
            subst hA
            obtain ⟨b', off', hA, hb2, y0⟩ := cellsI (Own.rd' encI_len ou_8.out) h1
            subst hA
            rw [hx] at x0
            have hru2 : ∀ lo' hi', lo' ≤ lo → hi ≤ hi' → lo' ≤ x → x ≤ hi' → lo' ≤ S[q] ∧ S[q] ≤ hi' := fun lo' hi' g1 g2 g3 g4 => hrun lo' hi' fun j hj hjq => by
              rcases Nat.lt_or_ge j q with c9 | c9
              · have := Hin.out j hj c9; omega
              · obtain rfl : j = q := by omega
                rw [hx]; omega
            generalize S[q] = sm at *
            have Hru2 := Lib.hid hru2
            clear hrun hru2 hx hsq f2
            by_cases hlo : x < lo
            · have hlo2 : ¬ lo ≤ x := by omega
              by_cases hhi : hi < x
              · have q9 := Hru2.out x x (by omega) (by omega) (by omega) (by omega)
                have hhi2 : x > hi := hhi
                have hz1 : ¬ sm < x := by omega
                have hz2 : ¬ x < sm := by omega
                have hin2 : ∀ j (hj : j < ly.length), j < q + 1 → x ≤ ly[j] ∧ ly[j] ≤ x := fun j hj hjq => by
                  rcases Nat.lt_or_ge j q with c9 | c9
                  · have := Hin.out j hj c9
                    omega
                  · obtain rfl : j = q := by omega
                    rw [Hlq.out]
                    omega
                have Hin2 := Lib.hid hin2
                clear hin2
                go_wp2
                go_roundw
                case rel => exact ⟨q + 1, x, x, by omega, by go_num, rfl, rfl, Hin2.out, by first | rfl | trivial⟩
                case measure => simp [intOf]; omega
              · have q9 := Hru2.out x hi (by omega) (by omega) (by omega) (by omega)
                have hz1 : ¬ sm < x := by omega
                have hz2 : ¬ hi < sm := by omega
                have hin2 : ∀ j (hj : j < ly.length), j < q + 1 → x ≤ ly[j] ∧ ly[j] ≤ hi := fun j hj hjq => by
                  rcases Nat.lt_or_ge j q with c9 | c9
                  · have := Hin.out j hj c9
                    omega
                  · obtain rfl : j = q := by omega
                    rw [Hlq.out]
                    omega
                have Hin2 := Lib.hid hin2
                clear hin2
                go_wp2
                go_roundw
                case rel => exact ⟨q + 1, x, hi, by omega, by go_num, rfl, rfl, Hin2.out, by first | rfl | trivial⟩
                case measure => simp [intOf]; omega
            · by_cases hhi : hi < x
              · have q9 := Hru2.out lo x (by omega) (by omega) (by omega) (by omega)
                have hhi2 : x > hi := hhi
                have hz1 : ¬ sm < lo := by omega
                have hz2 : ¬ x < sm := by omega
                have hin2 : ∀ j (hj : j < ly.length), j < q + 1 → lo ≤ ly[j] ∧ ly[j] ≤ x := fun j hj hjq => by
                  rcases Nat.lt_or_ge j q with c9 | c9
                  · have := Hin.out j hj c9
                    omega
                  · obtain rfl : j = q := by omega
                    rw [Hlq.out]
                    omega
                have Hin2 := Lib.hid hin2
                clear hin2
                go_wp2
                go_roundw
                case rel => exact ⟨q + 1, lo, x, by omega, by go_num, rfl, rfl, Hin2.out, by first | rfl | trivial⟩
                case measure => simp [intOf]; omega
              · have q9 := Hru2.out lo hi (by omega) (by omega) (by omega) (by omega)
                have hz1 : ¬ sm < lo := by omega
                have hz2 : ¬ hi < sm := by omega
                have hin2 : ∀ j (hj : j < ly.length), j < q + 1 → lo ≤ ly[j] ∧ ly[j] ≤ hi := fun j hj hjq => by
                  rcases Nat.lt_or_ge j q with c9 | c9
                  · have := Hin.out j hj c9
                    omega
                  · obtain rfl : j = q := by omega
                    rw [Hlq.out]
                    omega
                have Hin2 := Lib.hid hin2
                clear hin2
                go_wp2
                go_roundw
                case rel => exact ⟨q + 1, lo, hi, by omega, by go_num, rfl, rfl, Hin2.out, by first | rfl | trivial⟩
                case measure => simp [intOf]; omega
        · have hqz : ¬ (q : Int) < (ly.length : Int) := by omega
          go_wp2
          all_goals go_meet
          all_goals first | exact rfl | trivial
    case rest =>
      have hwd := hcut.symm
      subst hwd
      clear Hf HS Htold
      go_wp2_with fail
      refine (DrawClipped_any A0 c0 l0 _ (HR0.out _ HB8.out) hl0 Hby.out).mono ?_
      rintro e w9 ⟨Az, cz, lz, lev, rfl, hllz, hcz, hown, hb9⟩
      have Oz := Lib.hid hown
      have hlz : lz.length ≤ 1048576 := by omega
      clear hown
      have HB9 := Lib.hid (HB8.out.trans (hb9.mono HB8.out.size))
      clear hb9
      obtain ⟨C, hC⟩ : ∃ z, evL 0 100000 clF lz lev = z := ⟨_, rfl⟩
      have HC := Lib.hid hC
      clear hC
      obtain ⟨fine, hfine⟩ : ∃ z, okA 0 100000 lz lev = z := ⟨_, rfl⟩
      have Hfine := Lib.hid hfine
      clear hfine
      have hC : C.length ≤ 1048576 := by rw [← HC.out]; exact evL_len
      have hf : fine = true → C.length = lz.length ∧ okA 0 100000 C lev = true ∧ evL 0 100000 clF C lev = C ∧
          ∀ k (hk : k < C.length) (hk2 : k < lz.length), (-lev ≤ C[k] ∧ C[k] ≤ lev) ∧ (absI lz[k] ≤ lev → C[k] = lz[k]) ∧ (-100000 ≤ lz[k] ∧ lz[k] ≤ 100000) ∧ (0 ≤ lev ∧ lev ≤ 100000) := fun h1 => by
        obtain ⟨C', e, h2⟩ := clip_facts (Hfine.out.trans h1)
        have e2 := HC.out
        rw [e] at e2
        subst e2
        exact h2
      have Hf := Lib.hid hf
      clear hf
      go_wp2_with fail
      refine (Clipped_any Az cz lz lev _ (Own.rd' encI_len Oz.out) hlz hcz).mono ?_
      rintro e w10 ⟨Aa, ca, rfl, hca, hoa, hb10⟩
      have HB10 := Lib.hid (HB9.out.trans (hb10.mono HB9.out.size))
      have Oz_10 := Lib.hid (Oz.out.keep hb10)
      clear hb10
      rw [HC.out] at hca hoa ⊢
      rw [Hfine.out]
      have oa := Lib.hid hoa
      clear hoa
      go_wp2_with fail
      refine (sClipped_any Az cz lz lev _ (Own.rd' encI_len Oz_10.out) hlz hcz).mono ?_
      rintro e w11 ⟨Ab, cb, rfl, hcb, hob, hb11⟩
      have HB11 := Lib.hid (HB10.out.trans (hb11.mono HB10.out.size))
      have Oz_11 := Lib.hid (Oz_10.out.keep hb11)
      have oa_11 := Lib.hid (oa.out.keep hb11)
      clear hb11
      rw [HC.out] at hcb hob ⊢
      rw [Hfine.out]
      have ob := Lib.hid hob
      clear hob
      go_wp2_with fail
      refine (vInts_any Aa Ab ca cb C _ (Own.rd' encI_len oa_11.out) (Own.rd' encI_len ob.out) hC).mono ?_
      rintro e w12 ⟨rfl, hb12⟩
      have HB12 := Lib.hid (HB11.out.trans (hb12.mono HB11.out.size))
      have Oz_12 := Lib.hid (Oz_11.out.keep hb12)
      have oa_12 := Lib.hid (oa_11.out.keep hb12)
      have ob_12 := Lib.hid (ob.out.keep hb12)
      clear hb12
      go_upto_if 161 with (fail)
      go_cut [] (fun wx => Below w.heap.size w wx)
      case first =>
        cases fine with
        | false =>
          go_wp2_with fail
          all_goals go_meet
          all_goals exact HB12.out
        | true =>
          obtain ⟨f1, f2, f3, f4⟩ := Hf.out rfl
          have Hf1 := Lib.hid f1
          have Hf2 := Lib.hid f2
          have Hf3 := Lib.hid f3
          have Hf4 := Lib.hid f4
          clear f1 f2 f3 f4
          go_wp2_with fail
          refine (Clipped_any Aa ca C lev _ (Own.rd' encI_len oa_12.out) hC hca).mono ?_
          rintro e w13 ⟨Ae, ce, rfl, hce, hoe, hb13⟩
          have HB13 := Lib.hid (HB12.out.trans (hb13.mono HB12.out.size))
          have Oz_13 := Lib.hid (Oz_12.out.keep hb13)
          have oa_13 := Lib.hid (oa_12.out.keep hb13)
          clear hb13
          rw [Hf3.out] at hce hoe ⊢
          rw [Hf2.out]
          have oe := Lib.hid hoe
          clear hoe
          go_wp2_with fail
          refine (vInts_any Ae Aa ce ca C _ (Own.rd' encI_len oe.out) (Own.rd' encI_len oa_13.out) hC).mono ?_
          rintro e w14 ⟨rfl, hb14⟩
          have HB14 := Lib.hid (HB13.out.trans (hb14.mono HB13.out.size))
          have Oz_14 := Lib.hid (Oz_13.out.keep hb14)
          have oa_14 := Lib.hid (oa_13.out.keep hb14)
          have oe_14 := Lib.hid (oe.out.keep hb14)
          clear hb14
          go_wp2
          go_loopw [26] (fun i wr => ∃ q : Nat, q ≤ C.length ∧ i = .int .i64 q ∧ Hid (Below w14.heap.size w14 wr)) (fun i _ => C.length - (intOf i).toNat)
          case atStart => exact ⟨0, Nat.zero_le _, rfl, Below.refl _ _⟩
          case round =>
            obtain ⟨q, hql, rfl, hbl⟩ := hrel
            by_cases hlt : q < C.length
            · have hq2 : q < lz.length := by have := Hf1.out; omega
              obtain ⟨⟨g1, g2⟩, g3, ⟨g4, g5⟩, ⟨g6, g7⟩⟩ := Hf4.out q hlt hq2
              have HOa := Lib.hid (oa_14.out.keep hbl.out)
              have HOz := Lib.hid (Oz_14.out.keep hbl.out)
              obtain ⟨b, off, hA, hb1, x0⟩ := cellsI (Own.rd' encI_len HOa.out) hlt
              subst hA
              obtain ⟨b', off', hA, hb2, y0⟩ := cellsI (Own.rd' encI_len HOz.out) hq2
              subst hA
              generalize C[q] = c at *
              generalize lz[q] = y at *
              have hqz : (q : Int) < (C.length : Int) := by omega
              have hqz2 : (q : Int) < (lz.length : Int) := by omega
              have g8 : ¬ lev < absI c := by unfold absI; omega
              have g9 : ¬ absI c > lev := g8
              have hvc : -9223372036854775807 ≤ c ∧ c ≤ 9223372036854775807 := by omega
              have hvy : -9223372036854775807 ≤ y ∧ y ≤ 9223372036854775807 := by omega
              by_cases hay : absI y ≤ lev
              · have hcy := g3 hay
                subst hcy
                have hcc : (c != c) = false := by simp
                clear g3
                go_wp2_with fail
                go_quiet ((go_at_call 25; exact quiet_left (vSize_any c _ hvc.1 hvc.2)))
                go_wp2
                go_roundw
                case rel => exact ⟨q + 1, by omega, by go_num, below_drewN hbl.out _⟩
                case measure => simp [intOf]; omega
              · have Hv := Lib.hid (fun (z : Int) (hz : z = c ∨ z = y) (W : World) => vSize_any z W (by omega) (by omega))
                have hay2 : decide (absI y ≤ lev) = false := decide_eq_false hay
                have hay3 : lev < absI y := by omega
                clear g3
                go_wp2_with fail
                have g8x : ¬ lev < absI c := by omega
                have g8y : decide (lev < absI c) = false := decide_eq_false g8x
                have g8z : ¬ absI y ≤ lev := by omega
                have g8t : decide (absI y ≤ lev) = false := decide_eq_false g8z
                go_big_quiet ((go_at_call 25; exact quiet_left (Hv.out _ (by simp) _)))
                go_wp2
                go_roundw
                case rel => exact ⟨q + 1, by omega, by go_num, below_drewN hbl.out _⟩
                case measure => simp [intOf]; omega
            · have hqz : ¬ (q : Int) < (C.length : Int) := by omega
              have HBr := Lib.hid (HB14.out.trans (hbl.out.mono HB14.out.size))
              go_wp2
              all_goals go_meet
              all_goals exact HBr.out
      case rest =>
        obtain ⟨w60, rfl⟩ : ∃ w60 : World, w60 = wc := ⟨_, rfl⟩
        have HB60 := Lib.hid hcut
        clear hcut
        clear Oz oa HC Hfine Hf
        go_wp2_with fail
        refine (DrawTurningPoints_any A0 c0 l0 _ (HR0.out _ HB60.out) hl0 Hby.out).mono ?_
        rintro e w61 ⟨At, ct, lt, rfl, hllt, hct, hown, hb61⟩
        have Ot := Lib.hid hown
        have hlt : lt.length ≤ 1048576 := by omega
        clear hown
        have HB61 := Lib.hid (HB60.out.trans (hb61.mono HB60.out.size))
        clear hb61
        obtain ⟨T, hT⟩ : ∃ z, tpL lt = z := ⟨_, rfl⟩
        have HT := Lib.hid hT
        clear hT
        obtain ⟨known, hknown⟩ : ∃ z, goodS lt = z := ⟨_, rfl⟩
        have Hknown := Lib.hid hknown
        clear hknown
        have hT : T.length ≤ 1048576 := by rw [← HT.out]; exact tpL_len
        go_wp2_with fail
        refine (TurningPoints_any At ct lt _ (Own.rd' encI_len Ot.out) hlt).mono ?_
        rintro e w62 ⟨Ac, cc, rfl, hcc, hoc, hb62⟩
        have HB62 := Lib.hid (HB61.out.trans (hb62.mono HB61.out.size))
        have Ot_62 := Lib.hid (Ot.out.keep hb62)
        clear hb62
        rw [HT.out] at hcc hoc ⊢
        rw [Hknown.out]
        have oc := Lib.hid hoc
        clear hoc
        go_wp2_with fail
        refine (sTurningPoints_any At ct lt _ (Own.rd' encI_len Ot_62.out) hlt).mono ?_
        rintro e w63 ⟨Ad, cd, rfl, hcd, hod, hb63⟩
        have HB63 := Lib.hid (HB62.out.trans (hb63.mono HB62.out.size))
        have Ot_63 := Lib.hid (Ot_62.out.keep hb63)
        have oc_63 := Lib.hid (oc.out.keep hb63)
        clear hb63
        rw [HT.out] at hcd hod ⊢
        rw [Hknown.out]
        have od := Lib.hid hod
        clear hod
        go_wp2_with fail
        refine (vInts_any Ac Ad cc cd T _ (Own.rd' encI_len oc_63.out) (Own.rd' encI_len od.out) hT).mono ?_
        rintro e w64 ⟨rfl, hb64⟩
        have HB64 := Lib.hid (HB63.out.trans (hb64.mono HB63.out.size))
        have Ot_64 := Lib.hid (Ot_63.out.keep hb64)
        have oc_64 := Lib.hid (oc_63.out.keep hb64)
        have od_64 := Lib.hid (od.out.keep hb64)
        clear hb64
        go_wp2
        go_ret
        exact ⟨rfl, HB64.out⟩

end Go.Proofs.Ytabnnkallgcmgaa
