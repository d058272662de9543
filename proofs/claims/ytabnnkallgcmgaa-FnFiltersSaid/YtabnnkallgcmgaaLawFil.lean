/-
  FnFilters: walked. (Printed by gen_F8.py.)
-/
import Derived.Test.YtabnnkallgcmgaaDF
import Derived.Test.YtabnnkallgcmgaaWb
import Derived.Test.YtabnnkallgcmgaaTpn
import Derived.Test.YtabnnkallgcmgaaEvN
import Derived.Test.YtabnnkallgcmgaaWtd
import Derived.Test.YtabnnkallgcmgaaSmth
import Derived.Test.YtabnnkallgcmgaaClipS
import Derived.Test.YtabnnkallgcmgaaCombS
import Derived.Test.YtabnnkallgcmgaaMmI
import Derived.Test.YtabnnkallgcmgaaMmS
import Derived.Test.YtabnnkallgcmgaaRVW
import Derived.Test.YtabnnkallgcmgaaRLib
import Derived.Test.YtabnnkallgcmgaaMSumsS
import Derived.Deep.CutRange
import Derived.Deep.DeepCutAuto
import Derived.Deep.CutBlock
namespace Go.Proofs.Ytabnnkallgcmgaa
set_option linter.unusedVariables false
open Go.RowKit

theorem wbV_bd (ws : List Int) : 0 ≤ wbV ws ∧ wbV ws ≤ 50000000 := by
  unfold wbV
  split
  · rename_i h
    obtain ⟨⟨h1, h2⟩, h3⟩ := goodW_iff.1 h
    have := sumS_bd h3 ws.length (Nat.le_refl _)
    omega
  · omega

set_option maxRecDepth 100000 in
set_option maxHeartbeats 8000000 in
theorem law_FnFilters (A0 : Option Addr) (c0 : Nat) (l0 : List Int) (w : World) (h0 : Rd encB 1 w w.heap.size A0 l0) (m0 : l0.length ≤ maxLen) (wf0 : ∀ n ∈ l0, (Lit.int .u8 n).wf = true) :
    Calls Try.prog 7 #[.slice A0 l0.length c0] w fun e w' => e = .returned (.bool true) ∧ Below w.heap.size w w' := by
  unfold maxLen at m0
  by_cases hbig : 65536 < (l0.length : Int)
  · go_enter Try.func7, Try.ntmps7
    go_wp2_with fail
    refine (vBig_any _ _ _ _ (by omega)).mono ?_
    rintro e w' ⟨rfl, rfl⟩
    rw [show decide (65536 < (l0.length : Int)) = true from decide_eq_true (by omega)]
    go_wp2
    go_ret
    exact ⟨rfl, Below.refl _ _⟩
  · have hl0 : l0.length ≤ 1048576 := by omega
    have Hby := Lib.hid (bytes_of wf0)
    have HR0 := Lib.hid (fun (W : World) (hW : Below w.heap.size w W) => (h0.below hW).more hW.size)
    clear wf0 h0
    go_enter Try.func7, Try.ntmps7
    go_wp2_with fail
    refine (vBig_any _ _ _ _ (by omega)).mono ?_
    rintro e w' ⟨rfl, rfl⟩
    rw [show decide (65536 < (l0.length : Int)) = false from decide_eq_false (by omega)]
    have HB0 := Lib.hid (Below.refl w.heap.size w)
    go_wp2_with fail
    refine (DrawWeighted_any A0 c0 l0 _ (HR0.out _ HB0.out) hl0 Hby.out).mono ?_
    rintro e w1 ⟨Ax, cx, lx, Ay, cy, ly, rfl, hllx, hcx, hown, hlly, hcy, hown2, hb1⟩
    have Ox := Lib.hid hown
    have Oy := Lib.hid hown2
    have hlx : lx.length ≤ 1048576 := by omega
    have hly : ly.length ≤ 1048576 := by omega
    clear hown hown2
    have HB1 := Lib.hid (HB0.out.trans (hb1.mono HB0.out.size))
    clear hb1
    obtain ⟨O, hO⟩ : ∃ z, wdL lx ly = z := ⟨_, rfl⟩
    have HO := Lib.hid hO
    clear hO
    obtain ⟨ok, hok⟩ : ∃ z, okWd lx ly = z := ⟨_, rfl⟩
    have Hok := Lib.hid hok
    clear hok
    obtain ⟨bd, hbd⟩ : ∃ z, wbV ly = z := ⟨_, rfl⟩
    have Hbd := Lib.hid hbd
    clear hbd
    obtain ⟨gw, hgw⟩ : ∃ z, goodW ly = z := ⟨_, rfl⟩
    have Hgw := Lib.hid hgw
    clear hgw
    have hO : O.length ≤ 1048576 := by rw [← HO.out]; exact wdL_len
    have hf : ok = true → gw = true ∧ (∀ x ∈ O, absI x ≤ bd ∧ -9223372036854775807 ≤ x ∧ x ≤ 9223372036854775807) := fun h1 => by
      rw [← HO.out, ← Hbd.out, ← Hgw.out]
      have h2 := Hok.out.trans h1
      have h3 : goodW ly = true := by simp only [okWd, Bool.and_eq_true] at h2; exact h2.2
      refine ⟨h3, fun x hx => ?_⟩
      have h4 := wd_size h2 x hx
      have h5 := wbV_bd ly
      refine ⟨h4, ?_⟩
      unfold absI at h4
      omega
    have Hf := Lib.hid hf
    clear hf
    go_wp2_with fail
    refine (Weighted_any Ax Ay cx cy lx ly _ (Own.rd' encI_len Ox.out) (Own.rd' encI_len Oy.out) hlx hly).mono ?_
    rintro e w2 ⟨Ag, cg, rfl, hcg, hog, hb2⟩
    have HB2 := Lib.hid (HB1.out.trans (hb2.mono HB1.out.size))
    have Ox_2 := Lib.hid (Ox.out.keep hb2)
    have Oy_2 := Lib.hid (Oy.out.keep hb2)
    clear hb2
    rw [HO.out] at hcg hog ⊢
    rw [Hok.out]
    have og := Lib.hid hog
    clear hog
    go_wp2_with fail
    refine (sWeighted_any Ax Ay cx cy lx ly _ (Own.rd' encI_len Ox_2.out) (Own.rd' encI_len Oy_2.out) hlx hly).mono ?_
    rintro e w3 ⟨Aw, cw, rfl, hcw, how, hb3⟩
    have HB3 := Lib.hid (HB2.out.trans (hb3.mono HB2.out.size))
    have Ox_3 := Lib.hid (Ox_2.out.keep hb3)
    have Oy_3 := Lib.hid (Oy_2.out.keep hb3)
    have og_3 := Lib.hid (og.out.keep hb3)
    clear hb3
    rw [HO.out] at hcw how ⊢
    rw [Hok.out]
    have ow := Lib.hid how
    clear how
    go_wp2_with fail
    refine (vInts_any Ag Aw cg cw O _ (Own.rd' encI_len og_3.out) (Own.rd' encI_len ow.out) hO).mono ?_
    rintro e w4 ⟨rfl, hb4⟩
    have HB4 := Lib.hid (HB3.out.trans (hb4.mono HB3.out.size))
    have Ox_4 := Lib.hid (Ox_3.out.keep hb4)
    have Oy_4 := Lib.hid (Oy_3.out.keep hb4)
    have og_4 := Lib.hid (og_3.out.keep hb4)
    have ow_4 := Lib.hid (ow.out.keep hb4)
    clear hb4
    go_upto_if 67 with (fail)
    go_cut [] (fun wx => Below w.heap.size w wx)
    case first =>
      cases ok with
      | false =>
        go_wp2_with fail
        all_goals go_meet
        all_goals exact HB4.out
      | true =>
        obtain ⟨rfl, f2⟩ := Hf.out rfl
        have Hf2 := Lib.hid f2
        clear f2
        go_wp2_with fail
        refine (WeightBound_any Ay cy ly _ (Own.rd' encI_len Oy_4.out) hly).mono ?_
        rintro e w5 ⟨rfl, hb5⟩
        rw [Hbd.out, Hgw.out]
        have HB5 := Lib.hid (HB4.out.trans (hb5.mono HB4.out.size))
        have Ox_5 := Lib.hid (Ox_4.out.keep hb5)
        have Oy_5 := Lib.hid (Oy_4.out.keep hb5)
        have og_5 := Lib.hid (og_4.out.keep hb5)
        clear hb5
        go_wp2
        go_loopw [11] (fun i wr => ∃ k : Nat, k ≤ O.length ∧ i = .int .i64 k ∧ wr = w5) (fun i _ => O.length - (intOf i).toNat)
        case atStart => exact ⟨0, Nat.zero_le _, rfl, rfl⟩
        case round =>
          obtain ⟨k, hkl, rfl, rfl⟩ := hrel
          by_cases hlt : k < O.length
          · obtain ⟨q1, q2, q3⟩ := Hf2.out _ (List.getElem_mem hlt)
            obtain ⟨b, off, hA, hb1, x0⟩ := cellsI (Own.rd' encI_len og_5.out) hlt
            subst hA
            generalize O[k] = x at *
            have q4 : ¬ bd < absI x := by omega
            have q5 : ¬ absI x > bd := q4
            go_wp2_with (go_at_call 25; refine (vSize_any x _ q2 q3).mono ?_; rintro e w' ⟨rfl, rfl⟩)
            go_roundw
            case rel => exact ⟨k + 1, by omega, by go_num, by first | rfl | trivial⟩
            case measure => simp [intOf]; omega
          · have hkz : ¬ (k : Int) < (O.length : Int) := by omega
            go_wp2
            all_goals go_meet
            all_goals exact HB5.out
    case rest =>
      obtain ⟨w20, rfl⟩ : ∃ w20 : World, w20 = wc := ⟨_, rfl⟩
      have HB20 := Lib.hid hcut
      clear hcut
      clear Ox Oy og HO Hok Hbd Hgw Hf
      go_wp2_with fail
      refine (DrawMovingSums_any A0 c0 l0 _ (HR0.out _ HB20.out) hl0 Hby.out).mono ?_
      rintro e w21 ⟨Ap, cp, lp, m, rfl, hllp, hcp, hown, hb21⟩
      have Op := Lib.hid hown
      have hlp : lp.length ≤ 1048576 := by omega
      clear hown
      have HB21 := Lib.hid (HB20.out.trans (hb21.mono HB20.out.size))
      clear hb21
      obtain ⟨Q, hQ⟩ : ∃ z, msL lp m = z := ⟨_, rfl⟩
      have HQ := Lib.hid hQ
      clear hQ
      obtain ⟨told, htold⟩ : ∃ z, okMS lp m = z := ⟨_, rfl⟩
      have Htold := Lib.hid htold
      clear htold
      have hQ : Q.length ≤ 1048576 := by rw [← HQ.out]; exact msL_len
      have hf : told = true → (1 ≤ m ∧ m ≤ 10) ∧ (m ≤ 5 → okWd lp (List.replicate m.toNat 1) = true ∧ wdL lp (List.replicate m.toNat 1) = Q) := fun h1 => by
        have h2 := Htold.out.trans h1
        obtain ⟨_, h3, h4⟩ := okMS_iff.1 h2
        refine ⟨⟨h3, h4⟩, fun h5 => ?_⟩
        rw [← HQ.out]
        obtain ⟨mn, rfl⟩ := Int.eq_ofNat_of_zero_le (show 0 ≤ m by omega)
        exact wd_ones h2 (by omega)
      have Hf := Lib.hid hf
      clear hf
      go_wp2_with fail
      refine (MovingSums_any Ap cp lp m _ (Own.rd' encI_len Op.out) hlp hcp).mono ?_
      rintro e w22 ⟨Au, cu, rfl, hcu, hou, hb22⟩
      have HB22 := Lib.hid (HB21.out.trans (hb22.mono HB21.out.size))
      have Op_22 := Lib.hid (Op.out.keep hb22)
      clear hb22
      rw [HQ.out] at hcu hou ⊢
      rw [Htold.out]
      have ou := Lib.hid hou
      clear hou
      go_wp2_with fail
      refine (sMovingSums_any Ap cp lp m _ (Own.rd' encI_len Op_22.out) hlp hcp).mono ?_
      rintro e w23 ⟨Av, cv, rfl, hcv, hov, hb23⟩
      have HB23 := Lib.hid (HB22.out.trans (hb23.mono HB22.out.size))
      have Op_23 := Lib.hid (Op_22.out.keep hb23)
      have ou_23 := Lib.hid (ou.out.keep hb23)
      clear hb23
      rw [HQ.out] at hcv hov ⊢
      rw [Htold.out]
      have ov := Lib.hid hov
      clear hov
      go_wp2_with fail
      refine (vInts_any Au Av cu cv Q _ (Own.rd' encI_len ou_23.out) (Own.rd' encI_len ov.out) hQ).mono ?_
      rintro e w24 ⟨rfl, hb24⟩
      have HB24 := Lib.hid (HB23.out.trans (hb24.mono HB23.out.size))
      have Op_24 := Lib.hid (Op_23.out.keep hb24)
      have ou_24 := Lib.hid (ou_23.out.keep hb24)
      have ov_24 := Lib.hid (ov.out.keep hb24)
      clear hb24
      go_upto_region 22 with (fail)
      go_cut [118] (fun v wx => v = .bool (told && decide (m ≤ 5)) ∧ wx = w24)
      case first =>
        cases told with
        | false =>
          go_wp2_with fail
          all_goals go_meet
          all_goals exact ⟨rfl, rfl⟩
        | true =>
          by_cases hm5 : m ≤ 5
          · go_wp2_with fail
            all_goals go_meet
            all_goals exact ⟨by rw [decide_eq_true hm5]; rfl, rfl⟩
          · have hm6 : ¬ m ≤ 5 := hm5
            go_wp2_with fail
            all_goals go_meet
            all_goals exact ⟨by rw [decide_eq_false (by omega)]; rfl, rfl⟩
      case rest =>
        obtain ⟨rfl, hwc⟩ := hcut
        have hwd := hwc.symm
        subst hwd
        obtain ⟨both, hboth⟩ : ∃ z, (told && decide (m ≤ 5)) = z := ⟨_, rfl⟩
        rw [hboth]
        have Hboth := Lib.hid hboth
        clear hboth
        go_upto_if 118 with (fail)
        go_cut [] (fun wx => Below w.heap.size w wx)
        case first =>
          cases both with
          | false =>
            go_wp2_with fail
            all_goals go_meet
            all_goals exact HB24.out
          | true =>
            have hbo := Hboth.out
            simp only [Bool.and_eq_true, decide_eq_true_eq] at hbo
            obtain ⟨rfl, hm5⟩ := hbo
            obtain ⟨⟨hm1, hm2⟩, f3⟩ := Hf.out rfl
            obtain ⟨f4, f5⟩ := f3 hm5
            have Hf4 := Lib.hid f4
            have Hf5 := Lib.hid f5
            clear f3 f4 f5
            obtain ⟨mn, rfl⟩ := Int.eq_ofNat_of_zero_le (show 0 ≤ m by omega)
            have hrep : ∀ k : Nat, List.replicate (k + 1) (1 : Int) = List.replicate k 1 ++ [1] := fun k => List.replicate_succ'
            have Hrep := Lib.hid hrep
            obtain ⟨i0, hi, hz0, hz1, hz2⟩ := info_parts infoI
            have hs9 := HB24.out.size
            have hbe : Below w24.heap.size w24 (w24.alloc (.cells #[] 3)) := by (repeat (first | with_reducible exact Below.refl _ _ | with_reducible assumption | with_reducible refine Below.setCell ?_ (by simp <;> omega) _ | with_reducible refine Below.alloc ?_ (by first | omega | (simp <;> omega)) _ | with_reducible refine Below.drew ?_ | with_reducible refine below_drewN ?_ _))
            have Ho0 := Lib.hid (Own.empty (enc := encI) (k := 1) w24 w24.heap.size 3 (Nat.le_refl _))
            have Hbe := Lib.hid hbe
            clear hrep hbe
            go_wp2
            go_loopw [18, 19] (fun v i wr => ∃ (k : Nat) (A : Option Addr) (c : Nat) (o : List Int), k ≤ mn ∧ i = .int .i64 k ∧ v = .slice A o.length c ∧ Hid (o = List.replicate k 1) ∧ Hid (Own encI 1 wr w24.heap.size 3 (.slice A o.length c) o) ∧ Hid (Below w24.heap.size w24 wr)) (fun _ i _ => mn - (intOf i).toNat)
            case atStart => exact ⟨0, _, 0, [], Nat.zero_le _, rfl, rfl, rfl, Ho0.out, Hbe.out⟩
            case round =>
              obtain ⟨k, A, c, o, hkl, rfl, rfl, Ho, hown, hbl⟩ := hrel
              have hol : o.length ≤ 10 := by rw [Ho.out, List.length_replicate]; omega
              have hsr := hbl.out.size
              by_cases hlt : k < mn
              · have hkz : (k : Int) < (mn : Int) := by omega
                go_wp2_with (at_builtin; refine wpList_app1 rfl _ _ 22 rfl w24.heap.size 3 i0 _ 1 8 Try.underlying22 hi hz0 hz1 hz2 rfl (by omega) (by omega) encI encI_len encI_one (.slice A o.length c) o 1 wr _ rfl _ rfl hown.out rfl (by omega) (by omega) ?_; intro v9 w9 hown9 hb9 _)
                obtain ⟨A9, c9, rfl, _, _⟩ := Own.form encI_len hown9
                have Hown9 := Lib.hid hown9
                have Hb9 := Lib.hid (hbl.out.trans hb9)
                have Hoe := Lib.hid (show o ++ [1] = List.replicate (k + 1) 1 from by rw [Hrep.out, ← Ho.out])
                clear hown9 hb9
                go_wp2
                go_roundw
                case rel => exact ⟨k + 1, A9, c9, o ++ [1], by omega, by go_num, by simp, Hoe.out, Hown9.out, Hb9.out⟩
                case measure => simp [intOf]; omega
              · obtain rfl : k = mn := by omega
                have hkz : ¬ (k : Int) < (k : Int) := by omega
                obtain ⟨wq, rfl⟩ : ∃ wq : World, wq = wr := ⟨_, rfl⟩
                have HBq := Lib.hid (HB24.out.trans (hbl.out.mono HB24.out.size))
                have HOp := Lib.hid (Op_24.out.keep hbl.out)
                have HOu := Lib.hid (ou_24.out.keep hbl.out)
                have e1 := Hf5.out
                have e2 := Hf4.out
                rw [show ((k : Int)).toNat = k from rfl, ← Ho.out] at e1 e2
                have E1 := Lib.hid e1
                have E2 := Lib.hid e2
                have hol2 : o.length ≤ 1048576 := by omega
                clear e1 e2
                go_wp2_with fail
                refine (Weighted_any Ap A cp c lp o wq (Own.rd' encI_len HOp.out) (Own.rd' encI_len hown.out) hlp hol2).mono ?_
                rintro e wa ⟨Aa, ca, rfl, hca, hoa, hba⟩
                rw [E1.out] at hca hoa ⊢
                rw [E2.out]
                have Hoa := Lib.hid hoa
                have HOu2 := Lib.hid (HOu.out.keep hba)
                have HBa := Lib.hid (HBq.out.trans (hba.mono HBq.out.size))
                clear hoa hba
                go_wp2_with fail
                refine (vInts_any Aa Au ca cu Q wa (Own.rd' encI_len Hoa.out) (Own.rd' encI_len HOu2.out) hQ).mono ?_
                rintro e wb ⟨rfl, hbb⟩
                have HBb := Lib.hid (HBa.out.trans (hbb.mono HBa.out.size))
                clear hbb
                go_wp2
                all_goals go_meet
                all_goals exact HBb.out
        case rest =>
          obtain ⟨w40, rfl⟩ : ∃ w40 : World, w40 = wc := ⟨_, rfl⟩
          have HB40 := Lib.hid hcut
          clear hcut
          clear Op ou HQ Htold Hf Hboth
          go_wp2_with fail
          refine (DrawComb_any A0 c0 l0 _ (HR0.out _ HB40.out) hl0 Hby.out).mono ?_
          rintro e w41 ⟨Ay, cy, ly, lag, rfl, hlly, hcy, hown, hb41⟩
          have Oy := Lib.hid hown
          have hly : ly.length ≤ 1048576 := by omega
          clear hown
          have HB41 := Lib.hid (HB40.out.trans (hb41.mono HB40.out.size))
          clear hb41
          obtain ⟨C, hC⟩ : ∃ z, evL 1 10 cbF ly lag = z := ⟨_, rfl⟩
          have HC := Lib.hid hC
          clear hC
          obtain ⟨fine, hfine⟩ : ∃ z, okA 1 10 ly lag = z := ⟨_, rfl⟩
          have Hfine := Lib.hid hfine
          clear hfine
          have hC : C.length ≤ 1048576 := by rw [← HC.out]; exact evL_len
          go_wp2_with fail
          refine (Comb_any Ay cy ly lag _ (Own.rd' encI_len Oy.out) hly hcy).mono ?_
          rintro e w42 ⟨Aa, ca, rfl, hca, hoa, hb42⟩
          have HB42 := Lib.hid (HB41.out.trans (hb42.mono HB41.out.size))
          have Oy_42 := Lib.hid (Oy.out.keep hb42)
          clear hb42
          rw [HC.out] at hca hoa ⊢
          rw [Hfine.out]
          have oa := Lib.hid hoa
          clear hoa
          go_wp2_with fail
          refine (sComb_any Ay cy ly lag _ (Own.rd' encI_len Oy_42.out) hly hcy).mono ?_
          rintro e w43 ⟨Ab, cb, rfl, hcb, hob, hb43⟩
          have HB43 := Lib.hid (HB42.out.trans (hb43.mono HB42.out.size))
          have Oy_43 := Lib.hid (Oy_42.out.keep hb43)
          have oa_43 := Lib.hid (oa.out.keep hb43)
          clear hb43
          rw [HC.out] at hcb hob ⊢
          rw [Hfine.out]
          have ob := Lib.hid hob
          clear hob
          go_wp2_with fail
          refine (vInts_any Aa Ab ca cb C _ (Own.rd' encI_len oa_43.out) (Own.rd' encI_len ob.out) hC).mono ?_
          rintro e w44 ⟨rfl, hb44⟩
          have HB44 := Lib.hid (HB43.out.trans (hb44.mono HB43.out.size))
          have Oy_44 := Lib.hid (Oy_43.out.keep hb44)
          have oa_44 := Lib.hid (oa_43.out.keep hb44)
          have ob_44 := Lib.hid (ob.out.keep hb44)
          clear hb44
          go_wp2_with fail
          refine (DrawWeightBound_any A0 c0 l0 _ (HR0.out _ HB44.out) hl0 Hby.out).mono ?_
          rintro e w45 ⟨Az, cz, lz, rfl, hllz, hcz, hown, hb45⟩
          have Oz := Lib.hid hown
          have hlz : lz.length ≤ 1048576 := by omega
          clear hown
          have HB45 := Lib.hid (HB44.out.trans (hb45.mono HB44.out.size))
          clear hb45
          obtain ⟨wb, hwb⟩ : ∃ z, wbV lz = z := ⟨_, rfl⟩
          have Hwb := Lib.hid hwb
          clear hwb
          obtain ⟨known, hknown⟩ : ∃ z, goodW lz = z := ⟨_, rfl⟩
          have Hknown := Lib.hid hknown
          clear hknown
          go_wp2_with fail
          refine (WeightBound_any Az cz lz _ (Own.rd' encI_len Oz.out) hlz).mono ?_
          rintro e w46 ⟨rfl, hb46⟩
          rw [Hwb.out, Hknown.out]
          have HB46 := Lib.hid (HB45.out.trans (hb46.mono HB45.out.size))
          have Oz_46 := Lib.hid (Oz.out.keep hb46)
          clear hb46
          go_wp2_with fail
          refine (sWeightBound_any Az cz lz _ (Own.rd' encI_len Oz_46.out) hlz).mono ?_
          rintro e w47 ⟨rfl, hb47⟩
          rw [Hwb.out, Hknown.out]
          have HB47 := Lib.hid (HB46.out.trans (hb47.mono HB46.out.size))
          have Oz_47 := Lib.hid (Oz_46.out.keep hb47)
          clear hb47
          go_wp2_with fail
          refine (DrawEveryNth_any A0 c0 l0 _ (HR0.out _ HB47.out) hl0 Hby.out).mono ?_
          rintro e w48 ⟨Ae, ce, le, kk, rfl, hlle, hce, hown, hb48⟩
          have Oe := Lib.hid hown
          have hle : le.length ≤ 1048576 := by omega
          clear hown
          have HB48 := Lib.hid (HB47.out.trans (hb48.mono HB47.out.size))
          clear hb48
          obtain ⟨E, hE⟩ : ∃ z, enL le kk = z := ⟨_, rfl⟩
          have HE := Lib.hid hE
          clear hE
          obtain ⟨some, hsome⟩ : ∃ z, okA 1 10 le kk = z := ⟨_, rfl⟩
          have Hsome := Lib.hid hsome
          clear hsome
          have hE : E.length ≤ 1048576 := by rw [← HE.out]; exact enL_len
          go_wp2_with fail
          refine (EveryNth_any Ae ce le kk _ (Own.rd' encI_len Oe.out) hle).mono ?_
          rintro e w49 ⟨Ac, cc, rfl, hcc, hoc, hb49⟩
          have HB49 := Lib.hid (HB48.out.trans (hb49.mono HB48.out.size))
          have Oe_49 := Lib.hid (Oe.out.keep hb49)
          clear hb49
          rw [HE.out] at hcc hoc ⊢
          rw [Hsome.out]
          have oc := Lib.hid hoc
          clear hoc
          go_wp2_with fail
          refine (sEveryNth_any Ae ce le kk _ (Own.rd' encI_len Oe_49.out) hle).mono ?_
          rintro e w50 ⟨Ad, cd, rfl, hcd, hod, hb50⟩
          have HB50 := Lib.hid (HB49.out.trans (hb50.mono HB49.out.size))
          have Oe_50 := Lib.hid (Oe_49.out.keep hb50)
          have oc_50 := Lib.hid (oc.out.keep hb50)
          clear hb50
          rw [HE.out] at hcd hod ⊢
          rw [Hsome.out]
          have od := Lib.hid hod
          clear hod
          go_wp2_with fail
          refine (vInts_any Ac Ad cc cd E _ (Own.rd' encI_len oc_50.out) (Own.rd' encI_len od.out) hE).mono ?_
          rintro e w51 ⟨rfl, hb51⟩
          have HB51 := Lib.hid (HB50.out.trans (hb51.mono HB50.out.size))
          have Oe_51 := Lib.hid (Oe_50.out.keep hb51)
          have oc_51 := Lib.hid (oc_50.out.keep hb51)
          have od_51 := Lib.hid (od.out.keep hb51)
          clear hb51
          go_wp2
          go_ret
          exact ⟨rfl, HB51.out⟩

end Go.Proofs.Ytabnnkallgcmgaa
