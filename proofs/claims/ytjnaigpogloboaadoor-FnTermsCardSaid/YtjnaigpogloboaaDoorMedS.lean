/-
  Contract of the reference's MedianMagnitude. (Printed by gen_E7.py.)
-/
import Derived.Test.YtjnaigpogloboaaDoorMeMath
import Derived.Test.YtjnaigpogloboaaDoorStep
import Derived.Test.YtjnaigpogloboaaDoorInts
import Derived.Deep.QuietTactic
import Derived.Deep.RegionHeld3
import Derived.BigQuiet
import Derived.Deep.CutRange
import Derived.Deep.DeepCutAuto
import Derived.Deep.CutBlock
namespace Go.Proofs.YtjnaigpogloboaaDoor
set_option linter.unusedVariables false
open Go.RowKit

theorem encI_one (e : Int) : ∀ u ∈ encI e, u.oneCell' = true := by intro u hu; simp [encI] at hu; rcases hu with rfl; rfl
def LeftIns (wx : World) (o : List Int) (x : Int) (p : Nat) (s : Value) (W : World) : Prop := Own encI 1 W wx.heap.size 3 s (o.take p ++ [x] ++ o.drop p) ∧ Below wx.heap.size wx W
def LeftPos (wo : World) (q : Nat) (s : Value) (W : World) : Prop := s = .int .i64 q ∧ Below wo.heap.size wo W

set_option maxRecDepth 100000 in
set_option maxHeartbeats 4000000 in
theorem sMedianMagnitude_any (A A2 : Option Addr) (c c2 : Nat) (t : List TableRow) (l : List Swing) (w : World) (h : Rd encT 2 w w.heap.size A t) (h2 : Rd encS 4 w w.heap.size A2 l) (hl : t.length ≤ 1048576) (hl2 : l.length ≤ 1048576) :
    Calls Tryd.prog 25 #[.slice A t.length c, .slice A2 l.length c2] w fun e w' => e = .returned (.tuple #[.int .i64 (midM t l), .bool (hasMM t l)]) ∧ Below w.heap.size w w' := by
  have hb0 := Below.refl w.heap.size w
  have hr0 := h
  have HT := Lib.hid (l11Table_any A c t _ hr0 hl)
  have HS := Lib.hid (fun W (hB : Below w.heap.size w W) => l11Good_any A2 c2 l W ((h2.below hB).more hB.size) hl2)
  cases hg : goodT t with
  | false =>
    have hk : hasMM t l = false := by simp [hasMM, askMM, hg]
    have hka : askMM t l = false := by simp [askMM, hg]
    have hm0 : midM t l = 0 := by unfold midM; rw [hka]; rfl
    rw [hk, hm0]
    go_enter Tryd.func25, Tryd.ntmps25
    go_wp2_with (go_at_call 70; refine HT.out.mono ?_; rintro e w1 ⟨rfl, hb1⟩; rw [hg])
    go_ret2
    have hB := hb0.trans (hb1.mono hb0.size)
    exact ⟨rfl, hB⟩
  | true =>
    cases hs : goodWs l with
    | false =>
      have hk : hasMM t l = false := by simp [hasMM, askMM, hs]
      have hka : askMM t l = false := by simp [askMM, hs]
      have hm0 : midM t l = 0 := by unfold midM; rw [hka]; rfl
      rw [hk, hm0]
      go_enter Tryd.func25, Tryd.ntmps25
      go_wp2_with (first | (go_at_call 70; refine HT.out.mono ?_; rintro e w1 ⟨rfl, hb1⟩; rw [hg]; have HB1 := Lib.hid (hb0.trans (hb1.mono hb0.size))) | (go_at_call 75; refine (HS.out _ HB1.out).mono ?_; rintro e w2 ⟨rfl, hb2⟩; rw [hs]))
      go_ret2
      have hB := HB1.out.trans (hb2.mono HB1.out.size)
      exact ⟨rfl, hB⟩
    | true =>
      obtain ⟨hl10, hgs⟩ := goodWs_all hs
      have hka : askMM t l = true := by simp [askMM, hg, hs]
      have hk : hasMM t l = decide (0 < (magsL t l).length) := by unfold hasMM; rw [hka]; rfl
      have hm : midM t l = midL (sortL idZ (magsL t l)) := by unfold midM; rw [hka]; rfl
      have hMl := magsL_len t l
      rw [hk, hm]
      have HMag := Lib.hid (fun (W : World) (s : Swing) (hB : Below w.heap.size w W) (hw : goodW s = true) => l11Magnitude_any A c t s W ((h.below hB).more hB.size) hg hw)
      have HR2 := Lib.hid (fun (W : World) (hB : Below w.heap.size w W) => h2.below hB)
      have Hs := Lib.hid hgs
      have Hall := Lib.hid (List.take_of_length_le (Nat.le_refl l.length))
      obtain ⟨i0, hi, hz0, hz1, hz2⟩ := info_parts infoI
      obtain ⟨M, hM⟩ : ∃ M, magsL t l = M := ⟨_, rfl⟩
      rw [hM] at hMl ⊢
      have HM := Lib.hid hM
      clear hk hm hM hgs
      go_enter Tryd.func25, Tryd.ntmps25
      go_wp2_with fail
      refine HT.out.mono ?_
      rintro e w1 ⟨rfl, hb1⟩
      rw [hg]
      have HB1 := Lib.hid (hb0.trans (hb1.mono hb0.size))
      clear hb1
      go_wp2_with fail
      refine (HS.out _ HB1.out).mono ?_
      rintro e w2 ⟨rfl, hb2⟩
      rw [hs]
      have HB2 := Lib.hid (HB1.out.trans (hb2.mono HB1.out.size))
      clear hb2
      have hs2 := HB2.out.size
      have hbe : Below w2.heap.size w2 (w2.alloc (.cells #[] 3)) := by (repeat (first | with_reducible exact Below.refl _ _ | with_reducible assumption | with_reducible refine Below.setCell ?_ (by simp <;> omega) _ | with_reducible refine Below.alloc ?_ (by first | omega | (simp <;> omega)) _ | with_reducible refine Below.drew ?_ | with_reducible refine below_drewN ?_ _))
      have HB3 := Lib.hid (HB2.out.trans (hbe.mono hs2))
      have Ho3 := Lib.hid (Own.empty (enc := encI) (k := 1) w2 w.heap.size 3 hs2)
      clear hbe
      go_wp2
      go_loopw [6, 7] (fun v i wr => ∃ (k g cp : Nat) (o : List Int), k ≤ l.length ∧ i = .int .i64 k ∧ v = .slice (some ⟨g, 0, none⟩) o.length cp ∧ (o.length ≤ cp ∧ cp ≤ maxLen) ∧ Hid (o = sortL idZ (magsL t (l.take k))) ∧ Hid (Own encI 1 wr w.heap.size 3 (.slice (some ⟨g, 0, none⟩) o.length cp) o) ∧ Hid (Below w.heap.size w wr)) (fun _ i _ => l.length - (intOf i).toNat)
      case atStart => exact ⟨0, w2.heap.size, 0, [], Nat.zero_le _, rfl, rfl, ⟨Nat.le_refl _, Nat.zero_le _⟩, (by rw [List.take_zero]; rfl), Ho3.out, HB3.out⟩
      case round =>
        obtain ⟨k, g, cp, o, hkl, rfl, rfl, ⟨hoc, hcm⟩, Ho, hown, HBL⟩ := hrel
        have hol : o.length ≤ 10 := by rw [Ho.out, sortL_len]; have := magsL_len t (l.take k); rw [List.length_take] at this; omega
        by_cases hlt : k < l.length
        · have hgx := Hs.out _ (List.getElem_mem hlt)
          have hyes := fun h => magsL_yes (t := t) hlt h
          have hno := fun h => magsL_no (t := t) hlt h
          obtain ⟨b, off, hA, hb, c0, c1, c2', c3⟩ := cellsS (HR2.out _ HBL.out) hlt
          subst hA
          generalize l[k] = s at *
          have Hyes := Lib.hid hyes
          have Hno := Lib.hid hno
          have hs7 := HBL.out.size
          have HCall := Lib.hid (HMag.out wr s HBL.out hgx)
          clear hyes hno
          go_wp2_with fail
          refine HCall.out.mono ?_
          rintro e w4 ⟨rfl, hb4⟩
          have HB4 := Lib.hid (HBL.out.trans (hb4.mono hs7))
          have Ho4 := Lib.hid (hown.out.keep hb4)
          clear hb4 hown c0 c1 c2' c3
          cases hbo : bonOk t s.far with
          | false =>
            have Hn := Lib.hid (Hno.out hbo)
            clear hbo
            go_wp2
            go_roundw
            case rel => exact ⟨k + 1, g, cp, o, by omega, by go_num, rfl, ⟨hoc, hcm⟩, (by rw [Hn.out]; exact Ho.out), Ho4.out, HB4.out⟩
            case measure => simp [intOf]; omega
          | true =>
            have hmv : magO t s = magV t s := by unfold magO; rw [hbo]; rfl
            rw [hmv]
            have Hy := Lib.hid (Hyes.out hbo)
            have hmb := magV_bd hg hgx
            generalize magV t s = x at *
            clear hbo hmv
            obtain ⟨wo, rfl⟩ : ∃ wo : World, wo = w4 := ⟨_, rfl⟩
            have hpl := posL_le idZ x o
            obtain ⟨p, hp⟩ : ∃ p, posL idZ x o = p := ⟨_, rfl⟩
            rw [hp] at hpl
            have Hp := Lib.hid hp
            have Hbd := Lib.hid (show ∀ y ∈ o, -50 ≤ y ∧ y ≤ 1250 from fun y hy => by
              rw [Ho.out] at hy
              have h1 := (sortL_mem idZ).1 hy
              exact magsL_bd (t := t) (l := l.take k) hg (fun s hs => Hs.out s (List.mem_of_mem_take hs)) y h1)
            clear hp
            go_upto_block 2 with (fail)
            go_cut [10] (fun s W => LeftPos wo p s W)
            case first =>
              go_wp2_with fail
              go_loopw [10] (fun s W => ∃ q : Nat, q ≤ o.length ∧ s = .int .i64 q ∧ Hid (posN idZ x o q = p) ∧ Hid (Below wo.heap.size wo W)) (fun s _ => (intOf s).toNat)
              case atStart => exact ⟨o.length, Nat.le_refl _, rfl, Hp.out, Below.refl _ _⟩
              case round =>
                obtain ⟨q, hq, rfl, Hq, hbi⟩ := hrel
                by_cases hq0 : q = 0
                · subst hq0
                  have hp0 : p = 0 := Hq.out.symm
                  subst hp0
                  go_wp2
                  all_goals go_meet
                  all_goals exact ⟨rfl, hbi.out⟩
                · obtain ⟨q', rfl⟩ : ∃ q', q = q' + 1 := ⟨q - 1, by omega⟩
                  have hq1 : q' < o.length := by omega
                  obtain ⟨b2, off2, e2, _, d0⟩ := cellsI (Own.rd' encI_len (Ho4.out.keep hbi.out)) hq1
                  injection e2 with e2
                  injection e2 with e3 e4
                  subst e3 e4
                  simp only [Nat.zero_add] at d0
                  have hgo := posN_go idZ (x := x) hq1
                  have hst := posN_stop idZ (x := x) hq1
                  rw [Hq.out] at hgo hst
                  unfold idZ at hgo hst
                  have hgy := Hbd.out o[q'] (List.getElem_mem hq1)
                  generalize o[q'] = y at *
                  have Hgo := Lib.hid hgo
                  have Hst := Lib.hid hst
                  have hqz : (q' : Int) < (o.length : Int) := by omega
                  have hqz0 : (0 : Int) ≤ (q' : Int) := by omega
                  have hwk := IntWalk.i64_in (q' : Int) (by omega)
                  clear hgo hst
                  by_cases hxy : x < y
                  · have H1 := Lib.hid (Hgo.out hxy)
                    go_wp2
                    go_roundw
                    case rel => exact ⟨q', by omega, by go_num, H1.out.symm, hbi.out⟩
                    case measure => simp [intOf] <;> omega
                  · have H1 := Lib.hid (Hst.out hxy)
                    go_wp2
                    all_goals go_meet
                    all_goals exact ⟨by rw [H1.out]; go_num, hbi.out⟩
            case rest =>
              obtain ⟨rfl, hbx⟩ := hcut
              obtain ⟨wx, rfl⟩ : ∃ wx : World, wx = wc := ⟨_, rfl⟩
              have HOx := Lib.hid (Ho4.out.keep hbx)
              have HBx := Lib.hid (HB4.out.trans (hbx.mono HB4.out.size))
              have HYR := Lib.hid (Hy.out)
              clear hbx
              have hord := Own.rd' encI_len HOx.out
              have hpi : (p : Int) ≤ (o.length : Int) := by omega
              have hpi0 : (0 : Int) ≤ (p : Int) := by omega
              have hpic : (p : Int) ≤ (cp : Int) := by omega
              have hpnc : p ≤ cp := by omega
              have hcp9 : (cp : Int) ≤ 9223372036854775807 := by unfold maxLen at hcm; omega
              have hlen9 : o.length ≤ 1000 := by omega
              go_wp2_with fail
              have HO1 := Lib.hid ((Own.empty (enc := encI) (k := 1) wx wx.heap.size 3 (Nat.le_refl _)).keep (show Below _ _ (wx.alloc (.cells #[] 3)).drew from (Below.refl _ _).drew))
              have HO2 := Lib.hid (((Own.empty (enc := encI) (k := 1) wx wx.heap.size 3 (Nat.le_refl _)).alloc (.cells #[.int .i64 x] 3)).keep (show Below _ _ ((wx.alloc (.cells #[] 3)).alloc (.cells #[.int .i64 x] 3)).drew from (Below.refl _ _).drew))
              have HN2 : Hid (Blk ((wx.alloc (.cells #[] 3)).alloc (.cells #[.int .i64 x] 3)).drew (wx.heap.size + 1) 3 #[.int .i64 x]) := by
                have hq := (Blk.new (wx.alloc (.cells #[] 3)) 3 #[.int .i64 x]).drew
                simp at hq
                exact hq
              have HO3 : Hid (Own encI 1 ((wx.alloc (.cells #[.int .i64 x] 3)).alloc (.cells #[] 3)).drew wx.heap.size 3 (.slice (some ⟨wx.heap.size + 1, 0, none⟩) 0 0) []) := by
                have hq := (Own.empty (enc := encI) (k := 1) (wx.alloc (.cells #[.int .i64 x] 3)) wx.heap.size 3 (by simp)).keep (Below.refl _ _).drew
                simp at hq
                exact hq
              have HN3 := Lib.hid (show Blk ((wx.alloc (.cells #[.int .i64 x] 3)).alloc (.cells #[] 3)).drew wx.heap.size 3 #[.int .i64 x] from ((Blk.new wx _ _).alloc _).drew)
              have HsA := Lib.hid (fun (W : World) (hW : Below wx.heap.size wx W) => ((hord.below hW).take p).flat_ encI_len (by omega))
              have htl : (o.take p).length = p := by rw [List.length_take]; omega
              have Htl := Lib.hid htl
              have hdl : (o.drop p).length = o.length - p := by rw [List.length_drop]
              have Hdl := Lib.hid hdl
              clear htl hdl
              by_cases hpc : p = cp
              · have hdn : o.drop p = [] := List.drop_of_length_le (by omega)
                subst hpc
                have HsC := Lib.hid (fun (W : World) (ad : Addr) (j : Nat) (u : Value) (hu : (flat encI (o.drop p))[j]? = some u) => (show W.cell? (ad.add j) = some u from by rw [hdn] at hu; simp [flat] at hu))
                clear hdn
                skip
                go_region_held3 (fun w' => True) (go_keep) (first | (refine step_appL (by rfl) _ _ 47 (by rfl) wx.heap.size 3 i0 _ 1 8 Tryd.underlying47 hi hz0 hz1 hz2 rfl (by omega) (by omega) encI encI_len encI_one _ [] (o.take p) _ _ _ _ (by rfl) (by rfl) (by first | exact HO1.out | exact HO2.out | exact HO3.out) Htl.out (HsA.out _ (by (repeat (first | with_reducible exact Below.refl _ _ | with_reducible assumption | with_reducible refine Below.setCell ?_ (by simp <;> omega) _ | with_reducible refine Below.alloc ?_ (by first | omega | (simp <;> omega)) _ | with_reducible refine Below.drew ?_ | with_reducible refine below_drewN ?_ _)))) (by simp; omega) (by first | omega | (simp <;> omega)) ?_; intro v5 w5 hown5 hbl5 hgr5; rw [List.nil_append] at hown5; have hb5 := Below.trans (show Below wx.heap.size wx _ from (by (repeat (first | with_reducible exact Below.refl _ _ | with_reducible assumption | with_reducible refine Below.setCell ?_ (by simp <;> omega) _ | with_reducible refine Below.alloc ?_ (by first | omega | (simp <;> omega)) _ | with_reducible refine Below.drew ?_ | with_reducible refine below_drewN ?_ _)))) hbl5; have hs5 := hb5.size; (try (have HN5a := Lib.hid (HN2.out.grown hgr5 (fun e9 => Nat.succ_ne_self wx.heap.size (Option.some.inj e9))))); (try (have HN5b := Lib.hid (HN3.out.grown hgr5 (fun e9 => Nat.succ_ne_self wx.heap.size (Option.some.inj e9).symm)))); have Hown5 := Lib.hid hown5; clear hown5 hbl5 hgr5) | (refine step_app1 (by rfl) _ _ 47 (by rfl) wx.heap.size 3 i0 _ 1 8 Tryd.underlying47 hi hz0 hz1 hz2 rfl (by omega) (by omega) encI encI_len encI_one _ (o.take p) x #[.int .i64 x] (by rfl) _ _ _ (by rfl) (by rfl) (by first | exact Hown5.out | exact Hown5.out.alloc _ | exact (Hown5.out.alloc _).keep (Below.refl _ _).drew | exact Hown5.out.keep (Below.refl _ _).drew) (by first | exact HN5a.out | exact HN5b.out | exact Blk.new _ _ _ | exact HN5a.out.drew | exact HN5b.out.drew | exact (Blk.new _ _ _).drew) (by rw [Htl.out]; omega) (by first | omega | (simp <;> omega)) ?_; intro v6 w6 hown6 hbl6 hgr6; have hb6 := Below.trans (show Below wx.heap.size wx _ from (by (repeat (first | with_reducible exact Below.refl _ _ | with_reducible assumption | with_reducible refine Below.setCell ?_ (by simp <;> omega) _ | with_reducible refine Below.alloc ?_ (by first | omega | (simp <;> omega)) _ | with_reducible refine Below.drew ?_ | with_reducible refine below_drewN ?_ _)))) hbl6; have hs6 := hb6.size; have Hown6 := Lib.hid hown6; clear hown6 hbl6 hgr6) | (refine step_appL (by rfl) _ _ 47 (by rfl) wx.heap.size 3 i0 _ 1 8 Tryd.underlying47 hi hz0 hz1 hz2 rfl (by omega) (by omega) encI encI_len encI_one _ (o.take p ++ [x]) (o.drop p) _ _ _ _ (by rfl) (by rfl) (by first | exact Hown6.out | exact Hown6.out.keep (Below.refl _ _).drew) (by first | exact Hdl.out | (rw [Hdl.out]; omega)) (HsC.out _ _) (by simp [Htl.out]; omega) (by first | omega | (simp <;> omega)) ?_; intro v7 w7 hown7 hbl7 hgr7; have hb7 := Below.trans (show Below wx.heap.size wx _ from (by (repeat (first | with_reducible exact Below.refl _ _ | with_reducible assumption | with_reducible refine Below.setCell ?_ (by simp <;> omega) _ | with_reducible refine Below.alloc ?_ (by first | omega | (simp <;> omega)) _ | with_reducible refine Below.drew ?_ | with_reducible refine below_drewN ?_ _)))) hbl7; have hs7 := hb7.size; clear hbl7 hgr7))
                all_goals
                  have hO := hown7
                  have hpe : o.take p ++ [x] ++ o.drop p = insL idZ o x := by unfold insL; rw [Hp.out, List.append_assoc]; rfl
                  have hnx : insL idZ o x = sortL idZ (magsL t (l.take (k + 1))) := by rw [HYR.out, sortL_snoc, ← Ho.out]
                  rw [hpe] at hO
                  have hl0 : 0 < (insL idZ o x).length := by rw [insL_len]; omega
                  obtain ⟨A9, c9, e9, hc9, _⟩ := Own.form encI_len hO
                  subst e9
                  obtain ⟨g9, cs9, e9, _⟩ := hO.blk hl0
                  subst e9
                  have HO9 := Lib.hid (hO.mono (show w.heap.size ≤ wx.heap.size from HBx.out.size))
                  have HA9 := Lib.hid (HBx.out.trans (hb7.mono HBx.out.size))
                  have Hnx := Lib.hid hnx
                  clear hO hpe hown7 hb7 hnx
                  go_wp2
                  go_roundw
                  case rel => exact ⟨k + 1, g9, c9, insL idZ o x, by omega, by go_num, rfl, hc9, Hnx.out, HO9.out, HA9.out⟩
                  case measure => simp [intOf]; omega
              · have hpc2 : ¬ cp = p := fun e => hpc e.symm
                have HsC := Lib.hid (fun (W : World) (hW : Below wx.heap.size wx W) => (show ∀ j u, (flat encI (o.drop p))[j]? = some u → W.cell? ((⟨g, p, none⟩ : Addr).add j) = some u from by have hq := ((hord.below hW).drop p).flat_ encI_len (by omega); rwa [Nat.mul_one, Nat.zero_add] at hq))
                skip
                go_region_held3 (fun w' => True) (go_keep) (first | (refine step_appL (by rfl) _ _ 47 (by rfl) wx.heap.size 3 i0 _ 1 8 Tryd.underlying47 hi hz0 hz1 hz2 rfl (by omega) (by omega) encI encI_len encI_one _ [] (o.take p) _ _ _ _ (by rfl) (by rfl) (by first | exact HO1.out | exact HO2.out | exact HO3.out) Htl.out (HsA.out _ (by (repeat (first | with_reducible exact Below.refl _ _ | with_reducible assumption | with_reducible refine Below.setCell ?_ (by simp <;> omega) _ | with_reducible refine Below.alloc ?_ (by first | omega | (simp <;> omega)) _ | with_reducible refine Below.drew ?_ | with_reducible refine below_drewN ?_ _)))) (by simp; omega) (by first | omega | (simp <;> omega)) ?_; intro v5 w5 hown5 hbl5 hgr5; rw [List.nil_append] at hown5; have hb5 := Below.trans (show Below wx.heap.size wx _ from (by (repeat (first | with_reducible exact Below.refl _ _ | with_reducible assumption | with_reducible refine Below.setCell ?_ (by simp <;> omega) _ | with_reducible refine Below.alloc ?_ (by first | omega | (simp <;> omega)) _ | with_reducible refine Below.drew ?_ | with_reducible refine below_drewN ?_ _)))) hbl5; have hs5 := hb5.size; (try (have HN5a := Lib.hid (HN2.out.grown hgr5 (fun e9 => Nat.succ_ne_self wx.heap.size (Option.some.inj e9))))); (try (have HN5b := Lib.hid (HN3.out.grown hgr5 (fun e9 => Nat.succ_ne_self wx.heap.size (Option.some.inj e9).symm)))); have Hown5 := Lib.hid hown5; clear hown5 hbl5 hgr5) | (refine step_app1 (by rfl) _ _ 47 (by rfl) wx.heap.size 3 i0 _ 1 8 Tryd.underlying47 hi hz0 hz1 hz2 rfl (by omega) (by omega) encI encI_len encI_one _ (o.take p) x #[.int .i64 x] (by rfl) _ _ _ (by rfl) (by rfl) (by first | exact Hown5.out | exact Hown5.out.alloc _ | exact (Hown5.out.alloc _).keep (Below.refl _ _).drew | exact Hown5.out.keep (Below.refl _ _).drew) (by first | exact HN5a.out | exact HN5b.out | exact Blk.new _ _ _ | exact HN5a.out.drew | exact HN5b.out.drew | exact (Blk.new _ _ _).drew) (by rw [Htl.out]; omega) (by first | omega | (simp <;> omega)) ?_; intro v6 w6 hown6 hbl6 hgr6; have hb6 := Below.trans (show Below wx.heap.size wx _ from (by (repeat (first | with_reducible exact Below.refl _ _ | with_reducible assumption | with_reducible refine Below.setCell ?_ (by simp <;> omega) _ | with_reducible refine Below.alloc ?_ (by first | omega | (simp <;> omega)) _ | with_reducible refine Below.drew ?_ | with_reducible refine below_drewN ?_ _)))) hbl6; have hs6 := hb6.size; have Hown6 := Lib.hid hown6; clear hown6 hbl6 hgr6) | (refine step_appL (by rfl) _ _ 47 (by rfl) wx.heap.size 3 i0 _ 1 8 Tryd.underlying47 hi hz0 hz1 hz2 rfl (by omega) (by omega) encI encI_len encI_one _ (o.take p ++ [x]) (o.drop p) _ _ _ _ (by rfl) (by rfl) (by first | exact Hown6.out | exact Hown6.out.keep (Below.refl _ _).drew) (by first | exact Hdl.out | (rw [Hdl.out]; omega)) (HsC.out _ (by (repeat (first | with_reducible exact Below.refl _ _ | with_reducible assumption | with_reducible refine Below.setCell ?_ (by simp <;> omega) _ | with_reducible refine Below.alloc ?_ (by first | omega | (simp <;> omega)) _ | with_reducible refine Below.drew ?_ | with_reducible refine below_drewN ?_ _)))) (by simp [Htl.out]; omega) (by first | omega | (simp <;> omega)) ?_; intro v7 w7 hown7 hbl7 hgr7; have hb7 := Below.trans (show Below wx.heap.size wx _ from (by (repeat (first | with_reducible exact Below.refl _ _ | with_reducible assumption | with_reducible refine Below.setCell ?_ (by simp <;> omega) _ | with_reducible refine Below.alloc ?_ (by first | omega | (simp <;> omega)) _ | with_reducible refine Below.drew ?_ | with_reducible refine below_drewN ?_ _)))) hbl7; have hs7 := hb7.size; clear hbl7 hgr7))
                all_goals
                  have hO := hown7
                  have hpe : o.take p ++ [x] ++ o.drop p = insL idZ o x := by unfold insL; rw [Hp.out, List.append_assoc]; rfl
                  have hnx : insL idZ o x = sortL idZ (magsL t (l.take (k + 1))) := by rw [HYR.out, sortL_snoc, ← Ho.out]
                  rw [hpe] at hO
                  have hl0 : 0 < (insL idZ o x).length := by rw [insL_len]; omega
                  obtain ⟨A9, c9, e9, hc9, _⟩ := Own.form encI_len hO
                  subst e9
                  obtain ⟨g9, cs9, e9, _⟩ := hO.blk hl0
                  subst e9
                  have HO9 := Lib.hid (hO.mono (show w.heap.size ≤ wx.heap.size from HBx.out.size))
                  have HA9 := Lib.hid (HBx.out.trans (hb7.mono HBx.out.size))
                  have Hnx := Lib.hid hnx
                  clear hO hpe hown7 hb7 hnx
                  go_wp2
                  go_roundw
                  case rel => exact ⟨k + 1, g9, c9, insL idZ o x, by omega, by go_num, rfl, hc9, Hnx.out, HO9.out, HA9.out⟩
                  case measure => simp [intOf]; omega
        · have hke : k = l.length := by omega
          have hoM : o = sortL idZ M := by rw [Ho.out, hke, Hall.out, HM.out]
          have hSl := sortL_len idZ M
          by_cases h0 : M.length = 0
          · have hnil : M = [] := List.eq_nil_of_length_eq_zero h0
            have hol0 : o.length = 0 := by rw [hoM, hSl]; exact h0
            have hz : ((o.length : Int) == 0) = true := beq_iff_eq.2 (by omega)
            have Hnil := Lib.hid hnil
            clear hoM hnil
            go_wp2
            go_ret2
            refine ⟨?_, HBL.out⟩
            rw [Hnil.out]
            rfl
          · have hpos : 0 < o.length := by rw [hoM, hSl]; omega
            have hdec : decide (0 < M.length) = true := decide_eq_true (by omega)
            have hz : ((o.length : Int) == 0) = false := beq_eq_false_iff_ne.2 (by omega)
            have hj : (((o.length : Int) - 1) / 2).toNat < o.length := by omega
            obtain ⟨b4, off4, hA4, hb4, x0⟩ := cellsI (Own.rd' encI_len hown.out) hj
            injection hA4 with hA4
            injection hA4 with e1 e2
            subst e1 e2
            simp only [Nat.zero_add] at x0
            have hmid : midL (sortL idZ M) = o[(((o.length : Int) - 1) / 2).toNat] := by
              rw [← hoM]
              unfold midL
              rw [List.getD_eq_getElem?_getD, show (o.length - 1) / 2 = (((o.length : Int) - 1) / 2).toNat by omega, List.getElem?_eq_getElem hj]; rfl
            generalize o[(((o.length : Int) - 1) / 2).toNat] = y at *
            have Hmid := Lib.hid hmid
            have Hdec := Lib.hid hdec
            have hj0 : (0 : Int) ≤ ((o.length : Int) - 1) / 2 := by omega
            have hj1 : ((o.length : Int) - 1) / 2 < (o.length : Int) := by omega
            have hw1 : IntKind.i64.wrap ((o.length : Int) - 1) = (o.length : Int) - 1 := IntWalk.i64_in _ (by omega)
            have ht1 : ((o.length : Int) - 1).tdiv 2 = ((o.length : Int) - 1) / 2 := Int.tdiv_eq_ediv_of_nonneg (by omega)
            have hw2 : IntKind.i64.wrap (((o.length : Int) - 1) / 2) = ((o.length : Int) - 1) / 2 := IntWalk.i64_in _ (by omega)
            have x1 : wr.cell? ⟨g, (o.length - 1) / 2, none⟩ = some (.int .i64 y) := by
              rw [show (o.length - 1) / 2 = (((o.length : Int) - 1) / 2).toNat by omega]; exact x0
            clear hoM hmid hdec
            go_wp2
            go_ret2
            refine ⟨?_, HBL.out⟩
            rw [Hmid.out, Hdec.out]
            rfl

end Go.Proofs.YtjnaigpogloboaaDoor
