/-
  FnTerms: walked. (Printed by gen_E12.py.)
-/
import Derived.Test.YtjnaigpogloboaaDoorDE
import Derived.Test.YtjnaigpogloboaaDoorMgLaw
import Derived.Test.YtjnaigpogloboaaDoorMagTx
import Derived.Test.YtjnaigpogloboaaDoorMagOf
import Derived.Deep.CutRange
import Derived.Deep.DeepCutAuto
import Derived.Deep.CutBlock
import Derived.Test.YtjnaigpogloboaaDoorRLib
import Derived.Test.YtjnaigpogloboaaDoorRLibS
import Derived.Test.YtjnaigpogloboaaDoorMedI
import Derived.Test.YtjnaigpogloboaaDoorMedS
import Derived.Test.YtjnaigpogloboaaDoorResS
import Derived.Test.YtjnaigpogloboaaDoorNewI
import Derived.Test.YtjnaigpogloboaaDoorNewS
namespace Go.Proofs.YtjnaigpogloboaaDoor
set_option linter.unusedVariables false
open Go.RowKit

set_option maxRecDepth 100000 in
set_option maxHeartbeats 8000000 in
theorem law_FnTerms (A0 : Option Addr) (c0 : Nat) (l0 : List Int) (w : World) (h0 : Rd encB 1 w w.heap.size A0 l0) (m0 : l0.length ≤ maxLen) (wf0 : ∀ n ∈ l0, (Lit.int .u8 n).wf = true) (HP : Pow10 w) :
    Calls Tryd.prog 11 #[.slice A0 l0.length c0] w fun e w' => e = .returned (.bool true) ∧ Below w.heap.size w w' := by
  unfold maxLen at m0
  by_cases hbig : 65536 < (l0.length : Int)
  · go_enter Tryd.func11, Tryd.ntmps11
    go_wp2_with fail
    refine (rBig_any _ _ _ _ (by omega)).mono ?_
    rintro e w' ⟨rfl, rfl⟩
    rw [show decide (65536 < (l0.length : Int)) = true from decide_eq_true (by omega)]
    go_wp2
    go_ret
    exact ⟨rfl, Below.refl _ _⟩
  · have hl0 : l0.length ≤ 1048576 := by omega
    have Hby := Lib.hid (bytes_of wf0)
    have HR0 := Lib.hid (fun (W : World) (hW : Below w.heap.size w W) => (h0.below hW).more hW.size)
    clear wf0 h0
    go_enter Tryd.func11, Tryd.ntmps11
    go_wp2_with fail
    refine (rBig_any _ _ _ _ (by omega)).mono ?_
    rintro e w' ⟨rfl, rfl⟩
    rw [show decide (65536 < (l0.length : Int)) = false from decide_eq_false (by omega)]
    have HB0 := Lib.hid (Below.refl w.heap.size w)
    go_wp2_with fail
    refine (DrawResiduals_any A0 c0 l0 _ (HR0.out _ HB0.out) hl0 Hby.out).mono ?_
    rintro e w1 ⟨Ax, cx, lx, Ay, cy, ly, rfl, hllx, hcx, hown, hlly, hcy, hown2, hb1⟩
    have Ox := Lib.hid hown
    have Oy := Lib.hid hown2
    have hlx : lx.length ≤ 1048576 := by omega
    have hly : ly.length ≤ 1048576 := by omega
    clear hown hown2
    have HB1 := Lib.hid (HB0.out.trans (hb1.mono HB0.out.size))
    clear hb1
    obtain ⟨R, hR⟩ : ∃ z, resL lx ly = z := ⟨_, rfl⟩
    have HR := Lib.hid hR
    clear hR
    obtain ⟨ok, hok⟩ : ∃ z, hasMM lx ly = z := ⟨_, rfl⟩
    have Hok := Lib.hid hok
    clear hok
    obtain ⟨mid, hmid⟩ : ∃ z, midM lx ly = z := ⟨_, rfl⟩
    have Hmid := Lib.hid hmid
    clear hmid
    have hR : R.length ≤ 1048576 := by rw [← HR.out]; exact resL_len
    have hf : ok = true → R.any (· == 0) = true ∧ R.length ≤ 2 * R.countP leZ := fun h1 => by rw [← HR.out]; exact ⟨resL_zero (Hok.out.trans h1), resL_half (Hok.out.trans h1)⟩
    have Hf := Lib.hid hf
    clear hf
    go_wp2_with fail
    refine (Residuals_any Ax Ay cx cy lx ly _ (Own.rd' encT_len Ox.out) (Own.rd' encS_len Oy.out) hlx hly (HP.after HB1.out (Nat.le_refl _))).mono ?_
    rintro e w2 ⟨Ag, cg, rfl, hcg, hog, hb2⟩
    have HB2 := Lib.hid (HB1.out.trans (hb2.mono HB1.out.size))
    have Ox_2 := Lib.hid (Ox.out.keep hb2)
    have Oy_2 := Lib.hid (Oy.out.keep hb2)
    clear hb2
    rw [HR.out] at hcg hog ⊢
    rw [Hok.out]
    have og := Lib.hid hog
    clear hog
    go_wp2_with fail
    refine (sResiduals_any Ax Ay cx cy lx ly _ (Own.rd' encT_len Ox_2.out) (Own.rd' encS_len Oy_2.out) hlx hly).mono ?_
    rintro e w3 ⟨Aw, cw, rfl, hcw, how, hb3⟩
    have HB3 := Lib.hid (HB2.out.trans (hb3.mono HB2.out.size))
    have Ox_3 := Lib.hid (Ox_2.out.keep hb3)
    have Oy_3 := Lib.hid (Oy_2.out.keep hb3)
    have og_3 := Lib.hid (og.out.keep hb3)
    clear hb3
    rw [HR.out] at hcw how ⊢
    rw [Hok.out]
    have ow := Lib.hid how
    clear how
    go_wp2_with fail
    refine (rInts_any Ag Aw cg cw R _ (Own.rd' encI_len og_3.out) (Own.rd' encI_len ow.out) hR).mono ?_
    rintro e w4 ⟨rfl, hb4⟩
    have HB4 := Lib.hid (HB3.out.trans (hb4.mono HB3.out.size))
    have Ox_4 := Lib.hid (Ox_3.out.keep hb4)
    have Oy_4 := Lib.hid (Oy_3.out.keep hb4)
    have og_4 := Lib.hid (og_3.out.keep hb4)
    have ow_4 := Lib.hid (ow.out.keep hb4)
    clear hb4
    go_wp2_with fail
    refine (MedianMagnitude_any Ax Ay cx cy lx ly _ (Own.rd' encT_len Ox_4.out) (Own.rd' encS_len Oy_4.out) hlx hly (HP.after HB4.out (Nat.le_refl _))).mono ?_
    rintro e w5 ⟨rfl, hb5⟩
    rw [Hmid.out, Hok.out]
    have HB5 := Lib.hid (HB4.out.trans (hb5.mono HB4.out.size))
    have Ox_5 := Lib.hid (Ox_4.out.keep hb5)
    have Oy_5 := Lib.hid (Oy_4.out.keep hb5)
    have og_5 := Lib.hid (og_4.out.keep hb5)
    clear hb5
    go_wp2_with fail
    refine (sMedianMagnitude_any Ax Ay cx cy lx ly _ (Own.rd' encT_len Ox_5.out) (Own.rd' encS_len Oy_5.out) hlx hly).mono ?_
    rintro e w6 ⟨rfl, hb6⟩
    rw [Hmid.out, Hok.out]
    have HB6 := Lib.hid (HB5.out.trans (hb6.mono HB5.out.size))
    have Ox_6 := Lib.hid (Ox_5.out.keep hb6)
    have Oy_6 := Lib.hid (Oy_5.out.keep hb6)
    have og_6 := Lib.hid (og_5.out.keep hb6)
    clear hb6
    go_wp2
    go_loopw [13, 14] (fun c i wr => ∃ k : Nat, k ≤ R.length ∧ i = .int .i64 k ∧ c = .int .i64 ((R.take k).countP leZ : Nat) ∧ Hid (Below w6.heap.size w6 wr)) (fun _ i _ => R.length - (intOf i).toNat)
    case atStart => exact ⟨0, Nat.zero_le _, rfl, rfl, Below.refl _ _⟩
    case round =>
      obtain ⟨k, hkl, rfl, rfl, hbl⟩ := hrel
      have HBr := Lib.hid (HB6.out.trans (hbl.out.mono HB6.out.size))
      have hcl : (R.take k).countP leZ ≤ R.length := Nat.le_trans List.countP_le_length (by rw [List.length_take]; omega)
      by_cases hlt : k < R.length
      · obtain ⟨b, off, rfl, hb1, x0⟩ := cellsI (Own.rd' encI_len (og_6.out.keep hbl.out)) hlt
        have hcs := countP_take (p := leZ) R k hlt
        generalize hc1 : (R.take k).countP leZ = cn at *
        generalize R[k] = x at *
        by_cases hx : x ≤ 0
        · have hx1 : leZ x = true := decide_eq_true hx
          rw [hx1] at hcs
          simp only [if_true] at hcs
          have Hcs := Lib.hid hcs
          clear hx1 hcs hc1
          go_wp2
          go_roundw
          case rel => exact ⟨k + 1, by omega, by go_num, by rw [Hcs.out]; go_num, hbl.out⟩
          case measure => simp [intOf]; omega
        · have hx1 : leZ x = false := decide_eq_false hx
          rw [hx1] at hcs
          simp only [Bool.false_eq_true, if_false, Nat.add_zero] at hcs
          have Hcs := Lib.hid hcs
          clear hx1 hcs hc1
          go_wp2
          go_roundw
          case rel => exact ⟨k + 1, by omega, by go_num, by rw [Hcs.out], hbl.out⟩
          case measure => simp [intOf]; omega
      · obtain rfl : k = R.length := by omega
        have hcn : (R.take R.length).countP leZ = R.countP leZ := by rw [List.take_of_length_le (Nat.le_refl _)]
        rw [hcn] at hcl ⊢
        have Hg := Lib.hid (og_6.out.keep hbl.out)
        generalize R.countP leZ = cn at *
        obtain ⟨w30, rfl⟩ : ∃ w30 : World, w30 = wr := ⟨_, rfl⟩
        have HB30 := Lib.hid HBr.out
        clear HBr hbl hcn
        go_upto_region 18 with (fail)
        go_cut [112] (fun v wx => v = .bool false ∧ wx = w30)
        case first =>
          cases ok with
          | false =>
            go_wp2_with fail
            all_goals go_meet
            all_goals exact ⟨rfl, rfl⟩
          | true =>
            obtain ⟨f1, f2⟩ := Hf.out rfl
            have Hf1 := Lib.hid f1
            have f3 : ¬ 2 * (cn : Int) < (R.length : Int) := by omega
            clear f1
            go_wp2_with fail
            refine (rHas_any Ag cg R 0 w30 w30.heap.size (Own.rd' encI_len Hg.out) hR).mono ?_
            rintro e w' ⟨rfl, rfl⟩
            rw [Hf1.out]
            go_wp2
            all_goals go_meet
            all_goals exact ⟨by rw [decide_eq_false (by omega)], rfl⟩
        case rest =>
          obtain ⟨rfl, rfl⟩ := hcut
          go_wp2_with fail
          refine (DrawNewTerms_any A0 c0 l0 _ (HR0.out _ HB30.out) hl0 Hby.out).mono ?_
          rintro e w31 ⟨Au, cu, lu, Av, cv, lv, rfl, hllu, hcu, hown, hllv, hcv, hown2, hb31⟩
          have Ou := Lib.hid hown
          have Ov := Lib.hid hown2
          have hlu : lu.length ≤ 1048576 := by omega
          have hlv : lv.length ≤ 1048576 := by omega
          clear hown hown2
          have HB31 := Lib.hid (HB30.out.trans (hb31.mono HB30.out.size))
          clear hb31
          obtain ⟨N, hN⟩ : ∃ z, newL lu lv = z := ⟨_, rfl⟩
          have HN := Lib.hid hN
          clear hN
          obtain ⟨told, htold⟩ : ∃ z, hasMM lu lv = z := ⟨_, rfl⟩
          have Htold := Lib.hid htold
          clear htold
          obtain ⟨md, hmd⟩ : ∃ z, midM lu lv = z := ⟨_, rfl⟩
          have Hmd := Lib.hid hmd
          clear hmd
          have hN : N.length ≤ 1048576 := by rw [← HN.out]; exact newL_len
          have hmd : -50 ≤ md ∧ md ≤ 1250 := by rw [← Hmd.out]; exact midM_bd lu lv
          obtain ⟨hmd0, hmd1⟩ := hmd
          have hn0 : told = false → N = [] := fun h1 => by rw [← HN.out]; unfold newL; rw [Htold.out.trans h1]; rfl
          have hn1 : told = true → goodWs N = true ∧ N = lv.map (newS lu md) := fun h1 => by rw [← HN.out, ← Hmd.out]; exact ⟨newL_good (Htold.out.trans h1), newL_at (Htold.out.trans h1)⟩
          have hn2 : told = true → ∀ s ∈ lv, MOok lu (newS lu md s) = MOok lu s ∧ (MOok lu s = true → (MOv lu (newS lu md s) - md) * (MOv lu (newS lu md s) - md) ≤ (MOv lu s - md) * (MOv lu s - md)) := fun h1 s hs => by rw [← Hmd.out]; exact term_near (Htold.out.trans h1) hs
          have Hn0 := Lib.hid hn0
          have Hn1 := Lib.hid hn1
          have Hn2 := Lib.hid hn2
          clear hn0 hn1 hn2
          go_wp2_with fail
          refine (NewTerms_any Au Av cu cv lu lv _ (Own.rd' encT_len Ou.out) (Own.rd' encS_len Ov.out) hlu hlv (HP.after HB31.out (Nat.le_refl _))).mono ?_
          rintro e w32 ⟨Ap, cp, rfl, hcp, hop, hb32⟩
          have HB32 := Lib.hid (HB31.out.trans (hb32.mono HB31.out.size))
          have Ou_32 := Lib.hid (Ou.out.keep hb32)
          have Ov_32 := Lib.hid (Ov.out.keep hb32)
          clear hb32
          rw [HN.out] at hcp hop ⊢
          rw [Htold.out]
          have op := Lib.hid hop
          clear hop
          go_wp2_with fail
          refine (sNewTerms_any Au Av cu cv lu lv _ (Own.rd' encT_len Ou_32.out) (Own.rd' encS_len Ov_32.out) hlu hlv).mono ?_
          rintro e w33 ⟨Aq, cq, rfl, hcq, hoq, hb33⟩
          have HB33 := Lib.hid (HB32.out.trans (hb33.mono HB32.out.size))
          have Ou_33 := Lib.hid (Ou_32.out.keep hb33)
          have Ov_33 := Lib.hid (Ov_32.out.keep hb33)
          have op_33 := Lib.hid (op.out.keep hb33)
          clear hb33
          rw [HN.out] at hcq hoq ⊢
          rw [Htold.out]
          have oq := Lib.hid hoq
          clear hoq
          go_upto_region 23 with (fail)
          go_cut [146] (fun v wx => v = .bool false ∧ Below w33.heap.size w33 wx)
          case first =>
            go_wp2_with fail
            refine (rSwings_any Ap Aq cp cq N _ (Own.rd' encS_len op_33.out) (Own.rd' encS_len oq.out) hN).mono ?_
            rintro e wa ⟨rfl, hba⟩
            have op9 := Lib.hid (op_33.out.keep hba)
            have Hba := Lib.hid hba
            clear hba
            cases told with
            | false =>
              go_wp2
              all_goals go_meet
              all_goals exact ⟨rfl, Hba.out⟩
            | true =>
              go_wp2_with fail
              refine (AreSwings_any Ap cp N _ (Own.rd' encS_len op9.out) hN).mono ?_
              rintro e wb ⟨rfl, hbb⟩
              rw [(Hn1.out (by first | rfl | trivial)).1]
              have Hbb := Lib.hid (Hba.out.trans (hbb.mono Hba.out.size))
              go_wp2
              all_goals go_meet
              all_goals exact ⟨rfl, Hbb.out⟩
          case rest =>
            obtain ⟨rfl, hb34⟩ := hcut
            obtain ⟨w34, rfl⟩ : ∃ w34 : World, w34 = wc := ⟨_, rfl⟩
            have HB34 := Lib.hid (HB33.out.trans (hb34.mono HB33.out.size))
            have Ou_34 := Lib.hid (Ou_33.out.keep hb34)
            have Ov_34 := Lib.hid (Ov_33.out.keep hb34)
            have op_34 := Lib.hid (op_33.out.keep hb34)
            clear hb34
            go_wp2_with fail
            refine (MedianMagnitude_any Au Av cu cv lu lv _ (Own.rd' encT_len Ou_34.out) (Own.rd' encS_len Ov_34.out) hlu hlv (HP.after HB34.out (Nat.le_refl _))).mono ?_
            rintro e w35 ⟨rfl, hb35⟩
            rw [Hmd.out, Htold.out]
            have HB35 := Lib.hid (HB34.out.trans (hb35.mono HB34.out.size))
            have Ou_35 := Lib.hid (Ou_34.out.keep hb35)
            have Ov_35 := Lib.hid (Ov_34.out.keep hb35)
            have op_35 := Lib.hid (op_34.out.keep hb35)
            clear hb35
            go_wp2
            go_loopw [23] (fun i wr => ∃ k : Nat, k ≤ N.length ∧ i = .int .i64 k ∧ Hid (Below w35.heap.size w35 wr)) (fun i _ => N.length - (intOf i).toNat)
            case atStart => exact ⟨0, Nat.zero_le _, rfl, Below.refl _ _⟩
            case round =>
              obtain ⟨k, hkl, rfl, hbl⟩ := hrel
              have HBr := Lib.hid (HB35.out.trans (hbl.out.mono HB35.out.size))
              by_cases hlt : k < N.length
              · have ht : told = true := by
                  cases told with
                  | true => rfl
                  | false => rw [Hn0.out rfl] at hlt; simp at hlt
                subst ht
                have hNl : N.length = lv.length := by rw [(Hn1.out rfl).2, List.length_map]
                have hkv : k < lv.length := by omega
                have hNk : N[k] = newS lu md lv[k] := by
                  have e9 : N[k]? = some (newS lu md lv[k]) := by rw [(Hn1.out rfl).2, List.getElem?_map, List.getElem?_eq_getElem hkv]; rfl
                  rw [List.getElem?_eq_getElem hlt] at e9
                  exact Option.some.inj e9
                obtain ⟨f1, f2⟩ := Hn2.out rfl _ (List.getElem_mem hkv)
                rw [← hNk] at f1 f2
                have HOv := Lib.hid (Ov_35.out.keep hbl.out)
                have HOp := Lib.hid (op_35.out.keep hbl.out)
                have HOu := Lib.hid (Ou_35.out.keep hbl.out)
                obtain ⟨b, off, hA, hb1, x0, x1, x2, x3⟩ := cellsS (Own.rd' encS_len HOv.out) hkv
                subst hA
                obtain ⟨b', off', hA, hb2, y0, y1, y2, y3⟩ := cellsS (Own.rd' encS_len HOp.out) hlt
                subst hA
                generalize lv[k] = s at *
                generalize N[k] = s' at *
                have ba := MOv_bd lu s
                have bb := MOv_bd lu s'
                obtain ⟨va, hva⟩ : ∃ z, MOv lu s = z := ⟨_, rfl⟩
                obtain ⟨vb, hvb⟩ : ∃ z, MOv lu s' = z := ⟨_, rfl⟩
                obtain ⟨two, htwo⟩ : ∃ z, MOok lu s = z := ⟨_, rfl⟩
                rw [hva, hvb, htwo] at f2
                rw [htwo] at f1
                rw [hva] at ba
                rw [hvb] at bb
                have qa := sq_bd ba ⟨hmd0, hmd1⟩
                have qb := sq_bd bb ⟨hmd0, hmd1⟩
                obtain ⟨qa0, qa1⟩ := qa
                obtain ⟨qb0, qb1⟩ := qb
                obtain ⟨ba0, ba1⟩ := ba
                obtain ⟨bb0, bb1⟩ := bb
                have Hva := Lib.hid hva
                have Hvb := Lib.hid hvb
                have Htwo := Lib.hid htwo
                have Hf1 := Lib.hid f1
                have Hf2 := Lib.hid f2
                have hkz : (k : Int) < (N.length : Int) := by omega
                clear hva hvb htwo f1 f2 hNk hNl
                go_wp2_with fail
                refine (MagnitudeOf_any Au cu lu s wr (Own.rd' encT_len HOu.out) hlu (HP.after HBr.out (Nat.le_refl _))).mono ?_
                rintro e wa ⟨rfl, hba⟩
                rw [Hva.out, Htwo.out]
                have HBa := Lib.hid (hbl.out.trans (hba.mono hbl.out.size))
                have HBA := Lib.hid (HB35.out.trans (HBa.out.mono HB35.out.size))
                have HOu2 := Lib.hid (HOu.out.keep hba)
                have z0 := (hba.cell (p := ⟨b', off' + k * 4, none⟩) hb2).trans y0
                have z1 := (hba.cell (p := ⟨b', off' + k * 4 + 1, none⟩) hb2).trans y1
                have z2 := (hba.cell (p := ⟨b', off' + k * 4 + 2, none⟩) hb2).trans y2
                have z3 := (hba.cell (p := ⟨b', off' + k * 4 + 3, none⟩) hb2).trans y3
                clear hba x0 x1 x2 x3 y0 y1 y2 y3
                go_wp2_with fail
                refine (MagnitudeOf_any Au cu lu s' wa (Own.rd' encT_len HOu2.out) hlu (HP.after HBA.out (Nat.le_refl _))).mono ?_
                rintro e wb ⟨rfl, hbb⟩
                rw [Hvb.out, Hf1.out]
                have HBb := Lib.hid (HBa.out.trans (hbb.mono HBa.out.size))
                clear hbb z0 z1 z2 z3
                cases two with
                | false =>
                  go_wp2
                  go_roundw
                  case rel => exact ⟨k + 1, by omega, by go_num, HBb.out⟩
                  case measure => simp [intOf]; omega
                | true =>
                  have f5 := Hf2.out rfl
                  have f6 : ¬ (va - md) * (va - md) < (vb - md) * (vb - md) := by omega
                  have f7 : ¬ (vb - md) * (vb - md) > (va - md) * (va - md) := f6
                  go_wp2
                  go_roundw
                  case rel => exact ⟨k + 1, by omega, by go_num, HBb.out⟩
                  case measure => simp [intOf]; omega
              · have hkz : ¬ (k : Int) < (N.length : Int) := by omega
                obtain ⟨w50, rfl⟩ : ∃ w50 : World, w50 = wr := ⟨_, rfl⟩
                have HB50 := Lib.hid HBr.out
                clear HBr hbl
                go_wp2_with fail
                refine (DrawMedianMagnitude_any A0 c0 l0 _ (HR0.out _ HB50.out) hl0 Hby.out).mono ?_
                rintro e w51 ⟨Ae, ce, le, Af, cf, lf, rfl, hlle, hce, hown, hllf, hcf, hown2, hb51⟩
                have Oe := Lib.hid hown
                have Of := Lib.hid hown2
                have hle : le.length ≤ 1048576 := by omega
                have hlf : lf.length ≤ 1048576 := by omega
                clear hown hown2
                have HB51 := Lib.hid (HB50.out.trans (hb51.mono HB50.out.size))
                clear hb51
                obtain ⟨m9, hm9⟩ : ∃ z, midM le lf = z := ⟨_, rfl⟩
                have Hm9 := Lib.hid hm9
                clear hm9
                obtain ⟨k9, hk9⟩ : ∃ z, hasMM le lf = z := ⟨_, rfl⟩
                have Hk9 := Lib.hid hk9
                clear hk9
                go_wp2_with fail
                refine (MedianMagnitude_any Ae Af ce cf le lf _ (Own.rd' encT_len Oe.out) (Own.rd' encS_len Of.out) hle hlf (HP.after HB51.out (Nat.le_refl _))).mono ?_
                rintro e w52 ⟨rfl, hb52⟩
                rw [Hm9.out, Hk9.out]
                have HB52 := Lib.hid (HB51.out.trans (hb52.mono HB51.out.size))
                have Oe_52 := Lib.hid (Oe.out.keep hb52)
                have Of_52 := Lib.hid (Of.out.keep hb52)
                clear hb52
                go_wp2_with fail
                refine (sMedianMagnitude_any Ae Af ce cf le lf _ (Own.rd' encT_len Oe_52.out) (Own.rd' encS_len Of_52.out) hle hlf).mono ?_
                rintro e w53 ⟨rfl, hb53⟩
                rw [Hm9.out, Hk9.out]
                have HB53 := Lib.hid (HB52.out.trans (hb53.mono HB52.out.size))
                have Oe_53 := Lib.hid (Oe_52.out.keep hb53)
                have Of_53 := Lib.hid (Of_52.out.keep hb53)
                clear hb53
                go_wp2
                go_ret
                exact ⟨rfl, HB53.out⟩

end Go.Proofs.YtjnaigpogloboaaDoor
