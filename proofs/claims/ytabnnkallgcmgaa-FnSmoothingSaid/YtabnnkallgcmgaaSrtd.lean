/-
  Contract of the reference's own sort of numbers. (Printed by gen_F5.py.)
-/
import Derived.Test.YtabnnkallgcmgaaCopF
import Derived.Deep.QuietTactic
import Derived.Deep.RegionHeld3
import Derived.BigQuiet
import Derived.Deep.CutRange
import Derived.Deep.DeepCutAuto
import Derived.Deep.CutBlock
namespace Go.Proofs.Ytabnnkallgcmgaa
set_option linter.unusedVariables false
open Go.RowKit

theorem l1Own_any (b off n c B : Nat) (l : List Int) (w : World) (hn : l.length = n) (h : Rd encI 1 w B (some ⟨b, off, none⟩) l) (hl : l.length ≤ 1048576) (hB : B ≤ w.heap.size) :
    Calls Try.prog 76 #[.slice (some ⟨b, off, none⟩) n c] w fun e w' => ∃ v, e = .returned v ∧ Own encI 1 w' w.heap.size 3 v l ∧ Below w.heap.size w w' := by
  obtain ⟨i0, hi, hz0, hz1, hz2⟩ := info_parts infoI
  have hB0 : Below w.heap.size w (w.alloc (.cells #[] 3)) := by (repeat (first | with_reducible exact Below.refl _ _ | with_reducible assumption | with_reducible refine Below.setCell ?_ (by simp <;> omega) _ | with_reducible refine Below.alloc ?_ (by first | omega | (simp <;> omega)) _ | with_reducible refine Below.drew ?_ | with_reducible refine below_drewN ?_ _))
  have ho := Own.empty (enc := encI) (k := 1) w w.heap.size 3 (Nat.le_refl _)
  have hr := h.alloc hB (.cells #[] 3)
  have Ho := Lib.hid ho
  have Hr := Lib.hid hr
  clear ho hr h
  go_enter Try.func76, Try.ntmps76
  go_wp2_with (at_builtin; refine wpList_appL rfl _ _ 22 rfl w.heap.size 3 i0 _ 1 8 Try.underlying22 hi hz0 hz1 hz2 rfl (by omega) (by omega) encI encI_len encI_one (.slice (some ⟨w.heap.size, 0, none⟩) 0 0) [] l (w.alloc (.cells #[] 3)) b off n c B rfl Ho.out rfl hn Hr.out (by simp; omega) (by simp) ?_; intro v' w2 hown2 hb2 _)
  have Hown2 := Lib.hid (show Own encI 1 w2 w.heap.size 3 v' l from hown2)
  clear hown2
  go_wp2
  go_ret
  exact ⟨_, rfl, Hown2.out, hB0.trans hb2⟩
def LeftPos (wo : World) (q : Nat) (s : Value) (W : World) : Prop := s = .int .i64 q ∧ Below wo.heap.size wo W

set_option maxRecDepth 100000 in
set_option maxHeartbeats 4000000 in
theorem l6Sorted_any (A : Option Addr) (c : Nat) (l : List Int) (w : World) (h : Rd encI 1 w w.heap.size A l) (hl : l.length ≤ 1000) :
    Calls Try.prog 58 #[.slice A l.length c] w fun e w' => ∃ v, e = .returned v ∧ Own encI 1 w' w.heap.size 3 v (sortL idZ l) ∧ Below w.heap.size w w' := by
  have HR := Lib.hid (fun (W : World) (hB : Below w.heap.size w W) => h.below hB)
  have Hall := Lib.hid (List.take_of_length_le (Nat.le_refl l.length))
  obtain ⟨i0, hi, hz0, hz1, hz2⟩ := info_parts infoI
  have HB3 : Hid (Below w.heap.size w (w.alloc (.cells #[] 3))) := by show Below _ _ _; (repeat (first | with_reducible exact Below.refl _ _ | with_reducible assumption | with_reducible refine Below.setCell ?_ (by simp <;> omega) _ | with_reducible refine Below.alloc ?_ (by first | omega | (simp <;> omega)) _ | with_reducible refine Below.drew ?_ | with_reducible refine below_drewN ?_ _))
  have Ho3 := Lib.hid (Own.empty (enc := encI) (k := 1) w w.heap.size 3 (Nat.le_refl _))
  clear h
  go_enter Try.func58, Try.ntmps58
  go_wp2
  go_loopw [3, 4] (fun v i wr => ∃ (k g cp : Nat) (o : List Int), k ≤ l.length ∧ i = .int .i64 k ∧ v = .slice (some ⟨g, 0, none⟩) o.length cp ∧ (o.length ≤ cp ∧ cp ≤ maxLen) ∧ Hid (o = sortL idZ (l.take k)) ∧ Hid (Own encI 1 wr w.heap.size 3 (.slice (some ⟨g, 0, none⟩) o.length cp) o) ∧ Hid (Below w.heap.size w wr)) (fun _ i _ => l.length - (intOf i).toNat)
  case atStart => exact ⟨0, w.heap.size, 0, [], Nat.zero_le _, rfl, rfl, ⟨Nat.le_refl _, Nat.zero_le _⟩, (by rw [List.take_zero]; rfl), Ho3.out, HB3.out⟩
  case round =>
    obtain ⟨k, g, cp, o, hkl, rfl, rfl, ⟨hoc, hcm⟩, Ho, hown, HBL⟩ := hrel
    have hol : o.length ≤ 1000 := by rw [Ho.out, sortL_len, List.length_take]; omega
    by_cases hlt : k < l.length
    · have hy := sortL_succ idZ l k hlt
      obtain ⟨b, off, hA, hb, c0⟩ := cellsI (HR.out _ HBL.out) hlt
      subst hA
      generalize l[k] = x at *
      have HY := Lib.hid hy
      clear hy
      obtain ⟨wo, rfl⟩ : ∃ wo : World, wo = wr := ⟨_, rfl⟩
      have hbw : b < wo.heap.size := by have := HBL.out.size; omega
      have hpl := posL_le idZ x o
      obtain ⟨p, hp⟩ : ∃ p, posL idZ x o = p := ⟨_, rfl⟩
      rw [hp] at hpl
      have Hp := Lib.hid hp
      clear hp
      go_upto_block 2 with (fail)
      go_cut [5] (fun s W => LeftPos wo p s W)
      case first =>
        go_wp2_with fail
        go_loopw [5] (fun s W => ∃ q : Nat, q ≤ o.length ∧ s = .int .i64 q ∧ Hid (posN idZ x o q = p) ∧ Hid (Below wo.heap.size wo W)) (fun s _ => (intOf s).toNat)
        case atStart => exact ⟨o.length, Nat.le_refl _, rfl, Hp.out, Below.refl _ _⟩
        case round =>
          obtain ⟨q, hq, rfl, Hq, hbi⟩ := hrel
          have c1 := (hbi.out.cell (p := ⟨b, off + k, none⟩) hbw).trans c0
          by_cases hq0 : q = 0
          · subst hq0
            have hp0 : p = 0 := Hq.out.symm
            subst hp0
            go_wp2_with fail
            go_quiet (fail)
            go_wp2
            all_goals go_meet
            all_goals exact ⟨rfl, below_drewN hbi.out _⟩
          · obtain ⟨q', rfl⟩ : ∃ q', q = q' + 1 := ⟨q - 1, by omega⟩
            have hq1 : q' < o.length := by omega
            obtain ⟨b2, off2, e2, _, d0⟩ := cellsI (Own.rd' encI_len (hown.out.keep hbi.out)) hq1
            injection e2 with e2
            injection e2 with e3 e4
            subst e3 e4
            simp only [Nat.zero_add] at d0
            have hgo := posN_go idZ (x := x) hq1
            have hst := posN_stop idZ (x := x) hq1
            rw [Hq.out] at hgo hst
            unfold idZ at hgo hst
            generalize o[q'] = y at *
            have Hgo := Lib.hid hgo
            have Hst := Lib.hid hst
            have hqz : (q' : Int) < (o.length : Int) := by omega
            have hqz0 : (0 : Int) ≤ (q' : Int) := by omega
            have hkz : (k : Int) < (l.length : Int) := by omega
            have hwk := IntWalk.i64_in (q' : Int) (by omega)
            clear hgo hst
            by_cases hxy : x < y
            · have H1 := Lib.hid (Hgo.out hxy)
              go_wp2_with fail
              go_quiet (fail)
              go_wp2
              go_roundw
              case rel => exact ⟨q', by omega, by go_num, H1.out.symm, below_drewN hbi.out _⟩
              case measure => simp [intOf] <;> omega
            · have H1 := Lib.hid (Hst.out hxy)
              go_wp2_with fail
              go_quiet (fail)
              go_wp2
              all_goals go_meet
              all_goals exact ⟨by rw [H1.out]; go_num, below_drewN hbi.out _⟩
      case rest =>
        obtain ⟨rfl, hbx⟩ := hcut
        obtain ⟨wx, rfl⟩ : ∃ wx : World, wx = wc := ⟨_, rfl⟩
        have HOx := Lib.hid (hown.out.keep hbx)
        have HBx := Lib.hid (HBL.out.trans (hbx.mono HBL.out.size))
        have cx0 := (hbx.cell (p := ⟨b, off + k, none⟩) hbw).trans c0
        have hbw2 : b < wx.heap.size := by have := hbx.size; omega
        have HS := Lib.hid (fun (W : World) (hW : Below wx.heap.size wx W) => (hW.cell (p := ⟨b, off + k, none⟩) hbw2).trans cx0)
        clear hbx c0
        have hord := Own.rd' encI_len HOx.out
        have hpi : (p : Int) ≤ (o.length : Int) := by omega
        have hpi0 : (0 : Int) ≤ (p : Int) := by omega
        have hpic : (p : Int) ≤ (cp : Int) := by omega
        have hpnc : p ≤ cp := by omega
        have hkz : (k : Int) < (l.length : Int) := by omega
        have hcp9 : (cp : Int) ≤ 9223372036854775807 := by unfold maxLen at hcm; omega
        have htl : (o.take p).length = p := by rw [List.length_take]; omega
        have Htl := Lib.hid htl
        have hdl : (o.drop p).length = o.length - p := by rw [List.length_drop]
        have Hdl := Lib.hid hdl
        have HsR := Lib.hid (fun (W : World) (hW : Below wx.heap.size wx W) => (hord.below hW).take p)
        have HN1 := Lib.hid (Blk.new wx 3 #[.int .i64 x])
        clear htl hdl
        go_wp2_with fail
        by_cases hpc : p = cp
        · have hdn : o.drop p = [] := List.drop_of_length_le (by omega)
          subst hpc
          have HsC := Lib.hid (fun (W : World) (ad : Addr) (j : Nat) (u : Value) (hu : (flat encI (o.drop p))[j]? = some u) => (show W.cell? (ad.add j) = some u from by rw [hdn] at hu; simp [flat] at hu))
          clear hdn
          skip
          go_region_held3 (fun w' => w'.cell? ⟨b, off + k, none⟩ = some (.int .i64 x)) (first | exact HS.out _ (by (repeat (first | with_reducible exact Below.refl _ _ | with_reducible assumption | with_reducible refine Below.setCell ?_ (by simp <;> omega) _ | with_reducible refine Below.alloc ?_ (by first | omega | (simp <;> omega)) _ | with_reducible refine Below.drew ?_ | with_reducible refine below_drewN ?_ _))) | go_keep) (first | (go_at_call 76; refine (l1Own_any g 0 _ _ wx.heap.size (o.take p) _ Htl.out (HsR.out _ (by (repeat (first | with_reducible exact Below.refl _ _ | with_reducible assumption | with_reducible refine Below.setCell ?_ (by simp <;> omega) _ | with_reducible refine Below.alloc ?_ (by first | omega | (simp <;> omega)) _ | with_reducible refine Below.drew ?_ | with_reducible refine below_drewN ?_ _)))) (by rw [Htl.out]; omega) (by first | omega | (simp <;> omega))).mono ?_; rintro e w5 ⟨v5, rfl, hown5, hbl5⟩; obtain ⟨A5, c5, rfl, hc5, _⟩ := Own.form encI_len hown5; rw [Htl.out] at hown5 hc5 ⊢; have hb5 := Below.trans (show Below wx.heap.size wx _ from (by (repeat (first | with_reducible exact Below.refl _ _ | with_reducible assumption | with_reducible refine Below.setCell ?_ (by simp <;> omega) _ | with_reducible refine Below.alloc ?_ (by first | omega | (simp <;> omega)) _ | with_reducible refine Below.drew ?_ | with_reducible refine below_drewN ?_ _)))) (hbl5.mono (by first | omega | (simp <;> omega))); have hs5 := hb5.size; (first | (have HN5 := Lib.hid (HN1.out.after hbl5)) | (have HN5 := Lib.hid (HN1.out.drew.after hbl5)) | skip); have Hown5 := Lib.hid (hown5.mono (show wx.heap.size ≤ _ by first | omega | (simp <;> omega))); have hq5 := HS.out _ hb5; clear hown5 hbl5) | (refine step_app1 (by rfl) _ _ 22 (by rfl) wx.heap.size 3 i0 _ 1 8 Try.underlying22 hi hz0 hz1 hz2 rfl (by omega) (by omega) encI encI_len encI_one _ (o.take p) x #[.int .i64 x] (by rfl) _ _ _ (by rfl) (by rfl) (by first | exact Hown5.out | exact Hown5.out.alloc _ | exact (Hown5.out.alloc _).keep (Below.refl _ _).drew | exact Hown5.out.keep (Below.refl _ _).drew) (by first | exact HN5.out | exact Blk.new _ _ _ | exact HN5.out.drew | exact (Blk.new _ _ _).drew) (by rw [Htl.out]; omega) (by first | omega | (simp <;> omega)) ?_; intro v6 w6 hown6 hbl6 hgr6; have hb6 := Below.trans (show Below wx.heap.size wx _ from (by (repeat (first | with_reducible exact Below.refl _ _ | with_reducible assumption | with_reducible refine Below.setCell ?_ (by simp <;> omega) _ | with_reducible refine Below.alloc ?_ (by first | omega | (simp <;> omega)) _ | with_reducible refine Below.drew ?_ | with_reducible refine below_drewN ?_ _)))) hbl6; have hs6 := hb6.size; have Hown6 := Lib.hid hown6; clear hown6 hbl6 hgr6) | (refine step_appL (by rfl) _ _ 22 (by rfl) wx.heap.size 3 i0 _ 1 8 Try.underlying22 hi hz0 hz1 hz2 rfl (by omega) (by omega) encI encI_len encI_one _ (o.take p ++ [x]) (o.drop p) _ _ _ _ (by rfl) (by rfl) (by first | exact Hown6.out | exact Hown6.out.keep (Below.refl _ _).drew) (by first | exact Hdl.out | (rw [Hdl.out]; omega)) (HsC.out _ _) (by simp [Htl.out]; omega) (by first | omega | (simp <;> omega)) ?_; intro v7 w7 hown7 hbl7 hgr7; have hb7 := Below.trans (show Below wx.heap.size wx _ from (by (repeat (first | with_reducible exact Below.refl _ _ | with_reducible assumption | with_reducible refine Below.setCell ?_ (by simp <;> omega) _ | with_reducible refine Below.alloc ?_ (by first | omega | (simp <;> omega)) _ | with_reducible refine Below.drew ?_ | with_reducible refine below_drewN ?_ _)))) hbl7; have hs7 := hb7.size; clear hbl7 hgr7))
          all_goals
            have hO := hown7
            have hpe : o.take p ++ [x] ++ o.drop p = insL idZ o x := by unfold insL; rw [Hp.out, List.append_assoc]; rfl
            have hnx : insL idZ o x = sortL idZ (l.take (k + 1)) := by rw [HY.out, ← Ho.out]
            rw [hpe] at hO
            have hl0 : 0 < (insL idZ o x).length := by rw [insL_len]; omega
            obtain ⟨A9, c9, e9, hc9, _⟩ := Own.form encI_len hO
            subst e9
            obtain ⟨g9, cs9, e9, _⟩ := hO.blk hl0
            subst e9
            have HO9 := Lib.hid (hO.mono (show w.heap.size ≤ wx.heap.size from HBx.out.size))
            have HA9 := Lib.hid (HBx.out.trans (hb7.mono HBx.out.size))
            have Hnx := Lib.hid hnx
            clear hO hpe hown7 hb7 hnx
            go_wp2
            go_roundw
            case rel => exact ⟨k + 1, g9, c9, insL idZ o x, by omega, by go_num, rfl, hc9, Hnx.out, HO9.out, HA9.out⟩
            case measure => simp [intOf]; omega
        · have hpc2 : ¬ cp = p := fun e => hpc e.symm
          have HsC := Lib.hid (fun (W : World) (hW : Below wx.heap.size wx W) => (show ∀ j u, (flat encI (o.drop p))[j]? = some u → W.cell? ((⟨g, p, none⟩ : Addr).add j) = some u from by have hq := ((hord.below hW).drop p).flat_ encI_len (by omega); rwa [Nat.mul_one, Nat.zero_add] at hq))
          skip
          go_region_held3 (fun w' => w'.cell? ⟨b, off + k, none⟩ = some (.int .i64 x)) (first | exact HS.out _ (by (repeat (first | with_reducible exact Below.refl _ _ | with_reducible assumption | with_reducible refine Below.setCell ?_ (by simp <;> omega) _ | with_reducible refine Below.alloc ?_ (by first | omega | (simp <;> omega)) _ | with_reducible refine Below.drew ?_ | with_reducible refine below_drewN ?_ _))) | go_keep) (first | (go_at_call 76; refine (l1Own_any g 0 _ _ wx.heap.size (o.take p) _ Htl.out (HsR.out _ (by (repeat (first | with_reducible exact Below.refl _ _ | with_reducible assumption | with_reducible refine Below.setCell ?_ (by simp <;> omega) _ | with_reducible refine Below.alloc ?_ (by first | omega | (simp <;> omega)) _ | with_reducible refine Below.drew ?_ | with_reducible refine below_drewN ?_ _)))) (by rw [Htl.out]; omega) (by first | omega | (simp <;> omega))).mono ?_; rintro e w5 ⟨v5, rfl, hown5, hbl5⟩; obtain ⟨A5, c5, rfl, hc5, _⟩ := Own.form encI_len hown5; rw [Htl.out] at hown5 hc5 ⊢; have hb5 := Below.trans (show Below wx.heap.size wx _ from (by (repeat (first | with_reducible exact Below.refl _ _ | with_reducible assumption | with_reducible refine Below.setCell ?_ (by simp <;> omega) _ | with_reducible refine Below.alloc ?_ (by first | omega | (simp <;> omega)) _ | with_reducible refine Below.drew ?_ | with_reducible refine below_drewN ?_ _)))) (hbl5.mono (by first | omega | (simp <;> omega))); have hs5 := hb5.size; (first | (have HN5 := Lib.hid (HN1.out.after hbl5)) | (have HN5 := Lib.hid (HN1.out.drew.after hbl5)) | skip); have Hown5 := Lib.hid (hown5.mono (show wx.heap.size ≤ _ by first | omega | (simp <;> omega))); have hq5 := HS.out _ hb5; clear hown5 hbl5) | (refine step_app1 (by rfl) _ _ 22 (by rfl) wx.heap.size 3 i0 _ 1 8 Try.underlying22 hi hz0 hz1 hz2 rfl (by omega) (by omega) encI encI_len encI_one _ (o.take p) x #[.int .i64 x] (by rfl) _ _ _ (by rfl) (by rfl) (by first | exact Hown5.out | exact Hown5.out.alloc _ | exact (Hown5.out.alloc _).keep (Below.refl _ _).drew | exact Hown5.out.keep (Below.refl _ _).drew) (by first | exact HN5.out | exact Blk.new _ _ _ | exact HN5.out.drew | exact (Blk.new _ _ _).drew) (by rw [Htl.out]; omega) (by first | omega | (simp <;> omega)) ?_; intro v6 w6 hown6 hbl6 hgr6; have hb6 := Below.trans (show Below wx.heap.size wx _ from (by (repeat (first | with_reducible exact Below.refl _ _ | with_reducible assumption | with_reducible refine Below.setCell ?_ (by simp <;> omega) _ | with_reducible refine Below.alloc ?_ (by first | omega | (simp <;> omega)) _ | with_reducible refine Below.drew ?_ | with_reducible refine below_drewN ?_ _)))) hbl6; have hs6 := hb6.size; have Hown6 := Lib.hid hown6; clear hown6 hbl6 hgr6) | (refine step_appL (by rfl) _ _ 22 (by rfl) wx.heap.size 3 i0 _ 1 8 Try.underlying22 hi hz0 hz1 hz2 rfl (by omega) (by omega) encI encI_len encI_one _ (o.take p ++ [x]) (o.drop p) _ _ _ _ (by rfl) (by rfl) (by first | exact Hown6.out | exact Hown6.out.keep (Below.refl _ _).drew) (by first | exact Hdl.out | (rw [Hdl.out]; omega)) (HsC.out _ (by (repeat (first | with_reducible exact Below.refl _ _ | with_reducible assumption | with_reducible refine Below.setCell ?_ (by simp <;> omega) _ | with_reducible refine Below.alloc ?_ (by first | omega | (simp <;> omega)) _ | with_reducible refine Below.drew ?_ | with_reducible refine below_drewN ?_ _)))) (by simp [Htl.out]; omega) (by first | omega | (simp <;> omega)) ?_; intro v7 w7 hown7 hbl7 hgr7; have hb7 := Below.trans (show Below wx.heap.size wx _ from (by (repeat (first | with_reducible exact Below.refl _ _ | with_reducible assumption | with_reducible refine Below.setCell ?_ (by simp <;> omega) _ | with_reducible refine Below.alloc ?_ (by first | omega | (simp <;> omega)) _ | with_reducible refine Below.drew ?_ | with_reducible refine below_drewN ?_ _)))) hbl7; have hs7 := hb7.size; clear hbl7 hgr7))
          all_goals
            have hO := hown7
            have hpe : o.take p ++ [x] ++ o.drop p = insL idZ o x := by unfold insL; rw [Hp.out, List.append_assoc]; rfl
            have hnx : insL idZ o x = sortL idZ (l.take (k + 1)) := by rw [HY.out, ← Ho.out]
            rw [hpe] at hO
            have hl0 : 0 < (insL idZ o x).length := by rw [insL_len]; omega
            obtain ⟨A9, c9, e9, hc9, _⟩ := Own.form encI_len hO
            subst e9
            obtain ⟨g9, cs9, e9, _⟩ := hO.blk hl0
            subst e9
            have HO9 := Lib.hid (hO.mono (show w.heap.size ≤ wx.heap.size from HBx.out.size))
            have HA9 := Lib.hid (HBx.out.trans (hb7.mono HBx.out.size))
            have Hnx := Lib.hid hnx
            clear hO hpe hown7 hb7 hnx
            go_wp2
            go_roundw
            case rel => exact ⟨k + 1, g9, c9, insL idZ o x, by omega, by go_num, rfl, hc9, Hnx.out, HO9.out, HA9.out⟩
            case measure => simp [intOf]; omega
    · have hke : k = l.length := by omega
      have hoM : o = sortL idZ l := by rw [Ho.out, hke, Hall.out]
      subst hoM
      go_wp2
      go_ret
      exact ⟨_, rfl, hown.out, HBL.out⟩

end Go.Proofs.Ytabnnkallgcmgaa
