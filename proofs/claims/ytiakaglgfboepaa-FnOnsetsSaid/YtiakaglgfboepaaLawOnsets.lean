/-
  FnOnsets: walked. (Printed by gen_A17.py.)
-/
import Derived.Test.YtiakaglgfboepaaDPick3
import Derived.Test.YtiakaglgfboepaaFnPk
import Derived.Test.YtiakaglgfboepaaRTab
import Derived.Test.YtiakaglgfboepaaPr3
import Derived.Test.YtiakaglgfboepaaWindow
import Derived.Test.YtiakaglgfboepaaRevis
import Derived.Test.YtiakaglgfboepaaMoved
import Derived.Test.YtiakaglgfboepaaCuS
import Derived.Deep.CutRange
import Derived.Deep.DeepCutAuto
import Derived.Deep.CutBlock
namespace Go.Proofs.Ytiakaglgfboepaa
set_option linter.unusedVariables false
open Go.RowKit

set_option maxRecDepth 100000 in
set_option maxHeartbeats 8000000 in
theorem law_FnOnsets (A0 : Option Addr) (c0 : Nat) (l0 : List Int) (w : World) (h0 : Rd encB 1 w w.heap.size A0 l0) (m0 : l0.length ≤ maxLen) (wf0 : ∀ n ∈ l0, (Lit.int .u8 n).wf = true) :
    Calls Try.prog 14 #[.slice A0 l0.length c0] w fun e w' => e = .returned (.bool true) ∧ Below w.heap.size w w' := by
  unfold maxLen at m0
  by_cases hbig : 65536 < (l0.length : Int)
  · go_enter Try.func14, Try.ntmps14
    go_wp2_with fail
    refine (rBig_any _ _ _ _ (by omega)).mono ?_
    rintro e w' ⟨rfl, rfl⟩
    rw [show decide (65536 < (l0.length : Int)) = true from decide_eq_true (by omega)]
    go_wp2
    go_ret
    exact ⟨rfl, Below.refl _ _⟩
  · have hl0 : l0.length ≤ 1048576 := by omega
    have Hby := Lib.hid (bytes_of wf0)
    have HR0 := Lib.hid (fun (W : World) (hW : Below w.heap.size w W) => (h0.below hW).more hW.size)
    clear wf0 h0
    go_enter Try.func14, Try.ntmps14
    go_wp2_with fail
    refine (rBig_any _ _ _ _ (by omega)).mono ?_
    rintro e w' ⟨rfl, rfl⟩
    rw [show decide (65536 < (l0.length : Int)) = false from decide_eq_false (by omega)]
    have HB0 := Lib.hid (Below.refl w.heap.size w)
    go_wp2_with fail
    refine (DrawPairedPicks_any A0 c0 l0 _ (HR0.out _ HB0.out) hl0 Hby.out).mono ?_
    rintro e w1 ⟨Ax, cx, lx, st, rfl, hllx, hcx, hown, hb1⟩
    have Ox := Lib.hid hown
    have hlx : lx.length ≤ 1048576 := by omega
    clear hown
    have HB1 := Lib.hid (HB0.out.trans (hb1.mono HB0.out.size))
    have hz1 := HB1.out.size
    have hy1 := hb1.size
    clear hb1
    obtain ⟨L, hL⟩ : ∃ z, prL lx st = z := ⟨_, rfl⟩
    have HL := Lib.hid hL
    clear hL
    obtain ⟨ok, hok⟩ : ∃ z, okPr lx st = z := ⟨_, rfl⟩
    have Hok := Lib.hid hok
    clear hok
    have hL : L.length ≤ 1048576 := by rw [← HL.out]; exact prL_len
    go_wp2_with fail
    refine (PairedPicks_any Ax cx lx _ (Own.rd' encP_len Ox.out) hlx st).mono ?_
    rintro e w2 ⟨Ag, cg, rfl, hcg, hog, hb2⟩
    have HB2 := Lib.hid (HB1.out.trans (hb2.mono HB1.out.size))
    have hz2 := HB2.out.size
    have hy2 := hb2.size
    have Ox_2 := Lib.hid (Ox.out.keep hb2)
    clear hb2
    rw [HL.out] at hcg hog ⊢
    rw [Hok.out]
    have og := Lib.hid hog
    clear hog
    go_wp2_with fail
    refine (sPairedPicks_any Ax cx lx _ (Own.rd' encP_len Ox_2.out) hlx hcx st).mono ?_
    rintro e w3 ⟨Aw, cw, rfl, hcw, how, hb3⟩
    have HB3 := Lib.hid (HB2.out.trans (hb3.mono HB2.out.size))
    have hz3 := HB3.out.size
    have hy3 := hb3.size
    have Ox_3 := Lib.hid (Ox_2.out.keep hb3)
    have og_3 := Lib.hid ((og.out.keep (hb3.mono (by omega))).more (show _ ≤ w3.heap.size by omega))
    clear hb3
    rw [HL.out] at hcw how ⊢
    rw [Hok.out]
    have ow := Lib.hid how
    clear how
    go_wp2_with fail
    refine (rTable_any Ag Aw _ cg cw L _ _ _ _ _ og_3.out ow.out hL).mono ?_
    rintro e w4 ⟨rfl, hb4⟩
    have HB4 := Lib.hid (HB3.out.trans (hb4.mono HB3.out.size))
    have hz4 := HB4.out.size
    have hy4 := hb4.size
    have Ox_4 := Lib.hid (Ox_3.out.keep hb4)
    have og_4 := Lib.hid ((og_3.out.keep (hb4.mono (by omega))).more (show _ ≤ w4.heap.size by omega))
    have ow_4 := Lib.hid ((ow.out.keep (hb4.mono (by omega))).more (show _ ≤ w4.heap.size by omega))
    clear hb4
    obtain ⟨N, hN⟩ : ∃ z, cuL lx = z := ⟨_, rfl⟩
    have HN := Lib.hid hN
    clear hN
    obtain ⟨fine, hfine⟩ : ∃ z, picksS lx = z := ⟨_, rfl⟩
    have Hfine := Lib.hid hfine
    clear hfine
    have hN : N.length ≤ 1048576 := by rw [← HN.out]; exact cuL_len
    go_wp2_with fail
    refine (CurrentPicks_any Ax cx lx _ (Own.rd' encP_len Ox_4.out) hlx).mono ?_
    rintro e w5 ⟨An, cn, rfl, hcn, hon, hb5⟩
    have HB5 := Lib.hid (HB4.out.trans (hb5.mono HB4.out.size))
    have hz5 := HB5.out.size
    have hy5 := hb5.size
    have Ox_5 := Lib.hid (Ox_4.out.keep hb5)
    have og_5 := Lib.hid ((og_4.out.keep (hb5.mono (by omega))).more (show _ ≤ w5.heap.size by omega))
    clear hb5
    rw [HN.out] at hcn hon ⊢
    rw [Hfine.out]
    have on := Lib.hid hon
    clear hon
    have hpf : ∀ p ∈ L, fine = true ∧ N.any (· == p.1) = true ∧ N.any (· == p.2) = true ∧ okWi lx p.1 = true ∧ okWi lx p.2 = true ∧ wiHi lx p.1 < wiLo lx p.2 := fun p hp => by
      rw [← HL.out] at hp
      have hk : okPr lx st = true := by
        by_cases hk : okPr lx st = true
        · exact hk
        · unfold prL at hp; rw [if_neg hk] at hp; simp at hp
      have hq := pair_facts hk hp
      have hf : fine = true := by rw [← Hfine.out]; simp only [okPr, Bool.and_eq_true] at hk; exact hk.1
      rw [HN.out] at hq
      exact ⟨hf, hq⟩
    have Hpf := Lib.hid hpf
    clear hpf
    obtain ⟨gs, hos, _, _, _, hP⟩ := og_5.out
    have Hos := Lib.hid hos
    have HP := Lib.hid hP
    have Hgl := Lib.hid hos.len
    clear hos hP
    go_wp2
    go_loopw [11] (fun i wr => ∃ k : Nat, k ≤ L.length ∧ i = .int .i64 k ∧ Hid (Below w5.heap.size w5 wr)) (fun i _ => L.length - (intOf i).toNat)
    case atStart => exact ⟨0, Nat.zero_le _, rfl, Below.refl _ _⟩
    case round =>
      obtain ⟨k, hkl, rfl, hbl⟩ := hrel
      have HBr := Lib.hid (HB5.out.trans (hbl.out.mono HB5.out.size))
      by_cases hlt : k < L.length
      · obtain ⟨f1, f2, f3, f4, f5, f6⟩ := Hpf.out _ (List.getElem_mem hlt)
        subst f1
        have h1 : k < gs.length := by have := Hgl.out; omega
        obtain ⟨b, off, hA, hb1, c0⟩ := cellsG (Own.rd' encG_len (Hos.out.keep hbl.out)) h1
        subst hA
        have p0 := (HP.out.2 k h1 hlt).after hbl.out
        generalize gs[k] = g at *
        generalize L[k] = p at *
        obtain ⟨u, v⟩ := p
        simp only at f2 f3 f4 f5 f6
        have x0 := p0.cell 0
        have x1 := p0.cell 1
        simp only [prC, List.getElem?_toArray, List.getElem?_cons_zero, List.getElem?_cons_succ] at x0 x1
        have hp0 := p0.lt
        have HP0 := Lib.hid p0
        have hkz : (k : Int) < (L.length : Int) := by omega
        obtain ⟨alo, halo⟩ : ∃ z, wiLo lx u = z := ⟨_, rfl⟩
        obtain ⟨ahi, hahi⟩ : ∃ z, wiHi lx u = z := ⟨_, rfl⟩
        obtain ⟨blo, hblo⟩ : ∃ z, wiLo lx v = z := ⟨_, rfl⟩
        obtain ⟨bhi, hbhi⟩ : ∃ z, wiHi lx v = z := ⟨_, rfl⟩
        rw [hahi, hblo] at f6
        have f7 : ¬ blo ≤ ahi := by omega
        have Halo := Lib.hid halo
        have Hahi := Lib.hid hahi
        have Hblo := Lib.hid hblo
        have Hbhi := Lib.hid hbhi
        have H2 := Lib.hid f2
        have H3 := Lib.hid f3
        have H4 := Lib.hid f4
        have H5 := Lib.hid f5
        have Hox := Lib.hid (Ox_5.out.keep hbl.out)
        clear halo hahi hblo hbhi f2 f3 f4 f5 p0
        go_wp2_with fail
        refine (WindowOf_any Ax cx lx wr (Own.rd' encP_len Hox.out) hlx hcx u).mono ?_
        rintro e wa ⟨rfl, hba⟩
        rw [Halo.out, Hahi.out, H4.out]
        have hBa := hbl.out.trans (hba.mono hbl.out.size)
        have HBa := Lib.hid hBa
        have Hoa := Lib.hid (Hox.out.keep hba)
        have hga : b < wr.heap.size := hb1
        have y0 := (hba.cell (p := ⟨b, off + k, none⟩) hb1).trans c0
        have y1 := (hba.cell (p := ⟨g, 0, none⟩) hp0).trans x0
        have y2 := (hba.cell (p := ⟨g, 1, none⟩) hp0).trans x1
        have hsa := hba.size
        clear hba hBa c0 x0 x1
        go_wp2_with fail
        refine (WindowOf_any Ax cx lx wa (Own.rd' encP_len Hoa.out) hlx hcx v).mono ?_
        rintro e wb ⟨rfl, hbb⟩
        rw [Hblo.out, Hbhi.out, H5.out]
        have HBb := Lib.hid (HBa.out.trans (hbb.mono HBa.out.size))
        have z0 := (hbb.cell (p := ⟨b, off + k, none⟩) (by show b < _; omega)).trans y0
        have z1 := (hbb.cell (p := ⟨g, 0, none⟩) (by show g < _; omega)).trans y1
        have z2 := (hbb.cell (p := ⟨g, 1, none⟩) (by show g < _; omega)).trans y2
        have Hon := Lib.hid (on.out.keep HBb.out)
        clear hbb y0 y1 y2
        go_wp2_with fail
        refine (rHas_any An cn N u wb wb.heap.size (Own.rd' encI_len Hon.out) hN).mono ?_
        rintro e w' ⟨rfl, rfl⟩
        rw [H2.out]
        go_wp2_with fail
        refine (rHas_any An cn N v wb wb.heap.size (Own.rd' encI_len Hon.out) hN).mono ?_
        rintro e w' ⟨rfl, rfl⟩
        rw [H3.out]
        go_wp2
        go_roundw
        case rel => exact ⟨k + 1, by omega, by go_num, HBb.out⟩
        case measure => simp [intOf]; omega
      · have hkz : ¬ (k : Int) < (L.length : Int) := by omega
        obtain ⟨w50, rfl⟩ : ∃ w50 : World, w50 = wr := ⟨_, rfl⟩
        have HB50 := Lib.hid HBr.out
        clear HBr hbl
        go_wp2_with fail
        refine (DrawWindowOf_any A0 c0 l0 _ (HR0.out _ HB50.out) hl0 Hby.out).mono ?_
        rintro e w51 ⟨Ay, cy, ly, iy, rfl, hlly, hcy, hown, hb51⟩
        have Oy := Lib.hid hown
        have hly : ly.length ≤ 1048576 := by omega
        clear hown
        have HB51 := Lib.hid (HB50.out.trans (hb51.mono HB50.out.size))
        have hz51 := HB51.out.size
        have hy51 := hb51.size
        clear hb51
        obtain ⟨lo, hlo⟩ : ∃ z, wiLo ly iy = z := ⟨_, rfl⟩
        have Hlo := Lib.hid hlo
        clear hlo
        obtain ⟨hi, hhi⟩ : ∃ z, wiHi ly iy = z := ⟨_, rfl⟩
        have Hhi := Lib.hid hhi
        clear hhi
        obtain ⟨told, htold⟩ : ∃ z, okWi ly iy = z := ⟨_, rfl⟩
        have Htold := Lib.hid htold
        clear htold
        go_wp2_with fail
        refine (WindowOf_any Ay cy ly _ (Own.rd' encP_len Oy.out) hly hcy iy).mono ?_
        rintro e w52 ⟨rfl, hb52⟩
        rw [Hlo.out, Hhi.out, Htold.out]
        have HB52 := Lib.hid (HB51.out.trans (hb52.mono HB51.out.size))
        have hz52 := HB52.out.size
        have hy52 := hb52.size
        have Oy_52 := Lib.hid (Oy.out.keep hb52)
        clear hb52
        go_wp2_with fail
        refine (sWindowOf_any Ay cy ly _ (Own.rd' encP_len Oy_52.out) hly hcy iy).mono ?_
        rintro e w53 ⟨rfl, hb53⟩
        rw [Hlo.out, Hhi.out, Htold.out]
        have HB53 := Lib.hid (HB52.out.trans (hb53.mono HB52.out.size))
        have hz53 := HB53.out.size
        have hy53 := hb53.size
        have Oy_53 := Lib.hid (Oy_52.out.keep hb53)
        clear hb53
        have hwh : told = true → ∀ x ∈ ly, x.id = iy → ¬ x.tick < lo ∧ ¬ x.tick > hi := fun ht x hx he => by
          rw [← Hlo.out, ← Hhi.out]
          rw [← Htold.out] at ht
          exact win_hold ht hx he
        have Hwh := Lib.hid hwh
        clear hwh
        go_upto_block 2 with (fail)
        go_cut [] (fun wx => Below w.heap.size w wx)
        case first =>
          go_wp2_with fail
          go_loopw [26] (fun i wr => ∃ k : Nat, k ≤ ly.length ∧ i = .int .i64 k ∧ Hid (Below w53.heap.size w53 wr)) (fun i _ => ly.length - (intOf i).toNat)
          case atStart => exact ⟨0, Nat.zero_le _, rfl, Below.refl _ _⟩
          case round =>
            obtain ⟨k, hkl2, rfl, hbl⟩ := hrel
            have HBr := Lib.hid (HB53.out.trans (hbl.out.mono HB53.out.size))
            by_cases hlt : k < ly.length
            · have hkz : (k : Int) < (ly.length : Int) := by omega
              cases told with
              | false =>
                go_wp2
                all_goals go_meet
                all_goals exact HBr.out
              | true =>
                have hx := Hwh.out rfl _ (List.getElem_mem hlt)
                obtain ⟨b, off, hA, hb1, c0, c1, c2, c3, c4, c5, c6⟩ := cellsP (Own.rd' encP_len (Oy_53.out.keep hbl.out)) hlt
                subst hA
                generalize ly[k] = x at *
                cases he : (x.id == iy) with
                | false =>
                  clear hx
                  go_wp2
                  go_roundw
                  case rel => exact ⟨k + 1, by omega, by go_num, hbl.out⟩
                  case measure => simp [intOf]; omega
                | true =>
                  obtain ⟨t1, t2⟩ := hx (by simpa using he)
                  have t3 : ¬ hi < x.tick := by omega
                  clear hx
                  go_wp2
                  go_roundw
                  case rel => exact ⟨k + 1, by omega, by go_num, hbl.out⟩
                  case measure => simp [intOf]; omega
            · have hkz : ¬ (k : Int) < (ly.length : Int) := by omega
              go_wp2
              all_goals go_meet
              all_goals exact HBr.out
        case rest =>
          obtain ⟨w70, rfl⟩ : ∃ w70 : World, w70 = wc := ⟨_, rfl⟩
          have HB70 := Lib.hid hcut
          clear hcut
          go_wp2_with fail
          refine (DrawRevisions_any A0 c0 l0 _ (HR0.out _ HB70.out) hl0 Hby.out).mono ?_
          rintro e w71 ⟨Au, cu, lu, rfl, hllu, hcu, hown, hb71⟩
          have Ou := Lib.hid hown
          have hlu : lu.length ≤ 1048576 := by omega
          clear hown
          have HB71 := Lib.hid (HB70.out.trans (hb71.mono HB70.out.size))
          have hz71 := HB71.out.size
          have hy71 := hb71.size
          clear hb71
          obtain ⟨rh, hrh⟩ : ∃ z, revH lu = z := ⟨_, rfl⟩
          have Hrh := Lib.hid hrh
          clear hrh
          obtain ⟨ra, hra⟩ : ∃ z, revA lu = z := ⟨_, rfl⟩
          have Hra := Lib.hid hra
          clear hra
          obtain ⟨known, hknown⟩ : ∃ z, picksS lu = z := ⟨_, rfl⟩
          have Hknown := Lib.hid hknown
          clear hknown
          obtain ⟨mv, hmv⟩ : ∃ z, mmV lu = z := ⟨_, rfl⟩
          have Hmv := Lib.hid hmv
          clear hmv
          have hrf := rev_facts lu
          rw [Hrh.out, Hra.out, Hknown.out, Hmv.out] at hrf
          obtain ⟨r1, r2⟩ := hrf
          have r3 : ¬ ra < rh := r1
          obtain ⟨m1, m2, m3⟩ := mv
          simp only at r2
          have Hr2 := Lib.hid r2
          clear r1 r2
          go_wp2_with fail
          refine (Revisions_any Au cu lu _ (Own.rd' encP_len Ou.out) hlu hcu).mono ?_
          rintro e w72 ⟨rfl, hb72⟩
          rw [Hrh.out, Hra.out, Hknown.out]
          have HB72 := Lib.hid (HB71.out.trans (hb72.mono HB71.out.size))
          have hz72 := HB72.out.size
          have hy72 := hb72.size
          have Ou_72 := Lib.hid (Ou.out.keep hb72)
          clear hb72
          go_wp2_with fail
          refine (sRevisions_any Au cu lu _ (Own.rd' encP_len Ou_72.out) hlu hcu).mono ?_
          rintro e w73 ⟨rfl, hb73⟩
          rw [Hrh.out, Hra.out, Hknown.out]
          have HB73 := Lib.hid (HB72.out.trans (hb73.mono HB72.out.size))
          have hz73 := HB73.out.size
          have hy73 := hb73.size
          have Ou_73 := Lib.hid (Ou_72.out.keep hb73)
          clear hb73
          go_wp2_with fail
          refine (MovedMost_any Au cu lu _ (Own.rd' encP_len Ou_73.out) hlu hcu).mono ?_
          rintro e w74 ⟨rfl, hb74⟩
          have HB74 := Lib.hid (HB73.out.trans (hb74.mono HB73.out.size))
          have hz74 := HB74.out.size
          have hy74 := hb74.size
          have Ou_74 := Lib.hid (Ou_73.out.keep hb74)
          clear hb74
          rw [Hmv.out]
          go_wp2_with fail
          refine (sMovedMost_any Au cu lu _ (Own.rd' encP_len Ou_74.out) hlu hcu).mono ?_
          rintro e w75 ⟨rfl, hb75⟩
          have HB75 := Lib.hid (HB74.out.trans (hb75.mono HB74.out.size))
          have hz75 := HB75.out.size
          have hy75 := hb75.size
          have Ou_75 := Lib.hid (Ou_74.out.keep hb75)
          clear hb75
          rw [Hmv.out]
          by_cases ha : 0 < ra
          · have hm3 : m3 = known := by rw [Hr2.out, decide_eq_true ha, Bool.and_true]
            subst hm3
            have ha2 : ra > 0 := ha
            have hd0 : decide (0 < ra) = true := decide_eq_true ha
            cases m3 with
            | true =>
              go_wp2
              go_ret
              exact ⟨rfl, HB75.out⟩
            | false =>
              go_wp2
              go_ret
              exact ⟨rfl, HB75.out⟩
          · have hm3 : m3 = false := by rw [Hr2.out, decide_eq_false ha, Bool.and_false]
            subst hm3
            have ha2 : ¬ ra > 0 := ha
            have hd0 : decide (0 < ra) = false := decide_eq_false ha
            cases known with
            | true =>
              go_wp2
              go_ret
              exact ⟨rfl, HB75.out⟩
            | false =>
              go_wp2
              go_ret
              exact ⟨rfl, HB75.out⟩

end Go.Proofs.Ytiakaglgfboepaa
