/-
  Contract of the reference's CurrentPicks. (Printed by gen_A12.py.)
-/
import Derived.Test.YtiakaglgfboepaaCuI
import Derived.Test.YtiakaglgfboepaaFind
import Derived.Test.YtiakaglgfboepaaStep
import Derived.Deep.RegionHeld3
import Derived.BigQuiet
import Derived.Deep.CutRange
import Derived.Deep.DeepCutAuto
import Derived.Deep.CutBlock
namespace Go.Proofs.Ytiakaglgfboepaa
set_option linter.unusedVariables false
open Go.RowKit

def LeftIns (wx : World) (o : List Pick) (x : Pick) (p : Nat) (s : Value) (W : World) : Prop := Own encP 7 W wx.heap.size 25 s (o.take p ++ [x] ++ o.drop p) ∧ Below wx.heap.size wx W
def LeftPos (wo : World) (q : Nat) (s : Value) (W : World) : Prop := s = .int .i64 q ∧ Below wo.heap.size wo W

set_option maxRecDepth 100000 in
set_option maxHeartbeats 4000000 in
theorem sCurrentPicks_any (A : Option Addr) (c : Nat) (l : List Pick) (w : World) (h : Rd encP 7 w w.heap.size A l) (hl : l.length ≤ 1048576) (hc : l.length ≤ c ∧ c ≤ maxLen) :
    Calls Try.prog 45 #[.slice A l.length c] w fun e w' => ∃ A' c', e = .returned (.tuple #[.slice A' (cuL l).length c', .bool (picksS l)]) ∧ ((cuL l).length ≤ c' ∧ c' ≤ maxLen) ∧ Own encI 1 w' w.heap.size 3 (.slice A' (cuL l).length c') (cuL l) ∧ Below w.heap.size w w' := by
  unfold cuL
  have hB0 : Below w.heap.size w (w.alloc (.cells #[] 3)) := by (repeat (first | with_reducible exact Below.refl _ _ | with_reducible assumption | with_reducible refine Below.setCell ?_ (by simp <;> omega) _ | with_reducible refine Below.alloc ?_ (by first | omega | (simp <;> omega)) _ | with_reducible refine Below.drew ?_ | with_reducible refine below_drewN ?_ _))
  have HOI0 := Lib.hid (Own.empty (enc := encI) (k := 1) w w.heap.size 3 (Nat.le_refl _))
  have hr0 := (h.below hB0).more hB0.size
  cases hp : picksS l with
  | false =>
    simp only [Bool.false_eq_true, if_false, List.length_nil]
    go_enter Try.func45, Try.ntmps45
    go_wp2_with fail
    refine (l7Good_any A c l _ hr0 hl hc).mono ?_
    rintro e w1 ⟨rfl, hb1⟩
    rw [hp]
    have HOI1 := Lib.hid (HOI0.out.keep hb1)
    go_wp2
    go_ret2
    exact ⟨_, _, rfl, ⟨Nat.le_refl _, Nat.zero_le _⟩, HOI1.out, hB0.trans (hb1.mono hB0.size)⟩
  | true =>
    simp only [if_true]
    have h12 := (picksS_iff hp).2.1
    have hall := ordP_all l
    have hgd := fun k x hx => goodP_iff.1 (ordP_good hp k x hx)
    have Hgd := Lib.hid hgd
    have Hg := Lib.hid (fun x hx => goodP_iff.1 (picksS_good hp (x := x) hx))
    have HR := Lib.hid (fun (W : World) (hW : Below w.heap.size w W) => h.below hW)
    have HCur := Lib.hid (fun (W : World) (hW : Below w.heap.size w W) (id : Int) => l7Current_any A l.length c l id W w.heap.size rfl (h.below hW) hl)
    obtain ⟨M, hM⟩ : ∃ M, sortL Pick.tick (nowP l) = M := ⟨_, rfl⟩
    rw [hM] at hall ⊢
    have Hall := Lib.hid hall
    have hMl : M.length ≤ 12 := by rw [← hall]; have := ordP_len l l.length; omega
    obtain ⟨i0, hi, hz0, hz1, hz2⟩ := info_parts infoP
    obtain ⟨j0, ji, jz0, jz1, jz2⟩ := info_parts infoI
    clear hall hgd hM
    go_enter Try.func45, Try.ntmps45
    go_wp2_with fail
    refine (l7Good_any A c l _ hr0 hl hc).mono ?_
    rintro e w1 ⟨rfl, hb1⟩
    rw [hp]
    have HOI1 := Lib.hid (HOI0.out.keep hb1)
    have HB1 := Lib.hid (hB0.trans (hb1.mono hB0.size))
    clear hb1 hr0 hp hB0
    have hs1 := HB1.out.size
    have hbe : Below w1.heap.size w1 (w1.alloc (.cells #[] 25)) := by (repeat (first | with_reducible exact Below.refl _ _ | with_reducible assumption | with_reducible refine Below.setCell ?_ (by simp <;> omega) _ | with_reducible refine Below.alloc ?_ (by first | omega | (simp <;> omega)) _ | with_reducible refine Below.drew ?_ | with_reducible refine below_drewN ?_ _))
    obtain ⟨wA, hwA⟩ : ∃ wA, wA = w1.alloc (.cells #[] 25) := ⟨_, rfl⟩
    have HBA : Hid (Below w.heap.size w wA) := by show Below _ _ _; rw [hwA]; exact HB1.out.trans (hbe.mono hs1)
    have HOIA : Hid (Own encI 1 wA w.heap.size 3 (.slice (some ⟨w.heap.size, 0, none⟩) 0 0) []) := by show Own _ _ _ _ _ _ _; rw [hwA]; exact HOI1.out.keep hbe
    have HOPA : Hid (Own encP 7 wA w.heap.size 25 (.slice (some ⟨w1.heap.size, 0, none⟩) 0 0) []) := by show Own _ _ _ _ _ _ _; rw [hwA]; exact Own.empty _ _ _ hs1
    have HrA : Hid (wA = w1.alloc (.cells #[] 25)) := hwA
    clear hbe hwA
    go_wp2
    go_loopw [5, 6] (fun v i wr => ∃ (k g cp : Nat) (o : List Pick), k ≤ l.length ∧ i = .int .i64 k ∧ v = .slice (some ⟨g, 0, none⟩) o.length cp ∧ (o.length ≤ cp ∧ cp ≤ maxLen) ∧ Hid (o = ordP l k) ∧ Hid (Own encP 7 wr w.heap.size 25 (.slice (some ⟨g, 0, none⟩) o.length cp) o) ∧ Hid (Below wA.heap.size wA wr)) (fun _ i _ => l.length - (intOf i).toNat)
    case atStart => exact ⟨0, w1.heap.size, 0, [], Nat.zero_le _, rfl, rfl, ⟨Nat.le_refl _, Nat.zero_le _⟩, (ordP_zero l).symm, (by rw [← HrA.out]; exact HOPA.out), (by rw [← HrA.out]; exact Below.refl _ _)⟩
    case round =>
      obtain ⟨k, g, cp, o, hkl, rfl, rfl, ⟨hoc, hcm⟩, Ho, hown, hblA⟩ := hrel
      have HBL := Lib.hid (HBA.out.trans (hblA.out.mono HBA.out.size))
      have hol : o.length ≤ 12 := by rw [Ho.out]; have := ordP_len l k; omega
      by_cases hlt : k < l.length
      · have hgx := Hg.out _ (List.getElem_mem hlt)
        have hyes := ordP_yes hlt
        have hno := ordP_no hlt
        obtain ⟨b, off, hA, hb, c0, c1, c2, c3, c4, c5, c6⟩ := cellsP (HR.out _ HBL.out) hlt
        subst hA
        obtain ⟨x, hx⟩ : ∃ x, l[k] = x := ⟨_, rfl⟩
        rw [hx] at c0 c1 c2 c3 c4 c5 c6 hgx hyes hno
        rw [← Ho.out] at hyes hno
        have Hyes := Lib.hid hyes
        have Hno := Lib.hid hno
        have hkz : (k : Int) < (l.length : Int) := by omega
        have hs7 := HBL.out.size
        have HXC := Lib.hid (fun (W : World) (hW : Below w.heap.size w W) => (show W.cell? ⟨b, off + k * 7, none⟩ = some (.int .i64 x.id) ∧ W.cell? ⟨b, off + k * 7 + 1, none⟩ = some (.int .i64 x.station) ∧ W.cell? ⟨b, off + k * 7 + 2, none⟩ = some (.int .i64 x.wave) ∧ W.cell? ⟨b, off + k * 7 + 3, none⟩ = some (.int .i64 x.tick) ∧ W.cell? ⟨b, off + k * 7 + 4, none⟩ = some (.int .i64 x.err) ∧ W.cell? ⟨b, off + k * 7 + 5, none⟩ = some (.int .i64 x.by_) ∧ W.cell? ⟨b, off + k * 7 + 6, none⟩ = some (.int .i64 x.after_) from by
          obtain ⟨b', off', e', hb', d0, d1, d2, d3, d4, d5, d6⟩ := cellsP (HR.out _ hW) hlt
          rw [hx] at d0 d1 d2 d3 d4 d5 d6
          injection e' with e'
          injection e' with e1 e2
          subst e1 e2
          exact ⟨d0, d1, d2, d3, d4, d5, d6⟩))
        clear hx hyes hno
        cases hcu : curP l x.id with
        | false =>
          have Hn := Lib.hid (Hno.out hcu)
          go_wp2_with fail
          refine (HCur.out _ HBL.out _).mono ?_
          rintro e w' ⟨rfl, rfl⟩
          rw [hcu]
          clear hcu
          go_wp2
          go_roundw
          case rel => exact ⟨k + 1, g, cp, o, by omega, by go_num, rfl, ⟨hoc, hcm⟩, Hn.out.symm, hown.out, hblA.out⟩
          case measure => simp [intOf]; omega
        | true =>
          have Hy := Lib.hid (Hyes.out hcu)
          go_wp2_with fail
          refine (HCur.out _ HBL.out _).mono ?_
          rintro e w' ⟨rfl, rfl⟩
          rw [hcu]
          clear hcu
          obtain ⟨wo, rfl⟩ : ∃ wo : World, wo = wr := ⟨_, rfl⟩
          have hpl := posL_le Pick.tick x o
          obtain ⟨p, hp⟩ : ∃ p, posL Pick.tick x o = p := ⟨_, rfl⟩
          rw [hp] at hpl
          have Hp := Lib.hid hp
          clear hp
          go_upto_block 2 with (fail)
          go_cut [7] (fun s W => LeftPos wo p s W)
          case first =>
            go_wp2_with fail
            go_loopw [7] (fun s W => ∃ q : Nat, q ≤ o.length ∧ s = .int .i64 q ∧ Hid (posN Pick.tick x o q = p) ∧ Hid (Below wo.heap.size wo W)) (fun s _ => (intOf s).toNat)
            case atStart => exact ⟨o.length, Nat.le_refl _, rfl, Hp.out, Below.refl _ _⟩
            case round =>
              obtain ⟨q, hq, rfl, Hq, hbi⟩ := hrel
              clear c0 c1 c2 c3 c4 c5 c6
              by_cases hq0 : q = 0
              · subst hq0
                have hp0 : p = 0 := Hq.out.symm
                subst hp0
                go_wp2_with fail
                go_quiet (fail)
                go_wp2
                all_goals go_meet
                all_goals exact ⟨rfl, below_drewN hbi.out _⟩
              · obtain ⟨q', rfl⟩ : ∃ q', q = q' + 1 := ⟨q - 1, by omega⟩
                have hq1 : q' < o.length := by omega
                obtain ⟨b2, off2, e2, _, d0, d1, d2, d3, d4, d5, d6⟩ := cellsP (Own.rd' encP_len (hown.out.keep hbi.out)) hq1
                injection e2 with e2
                injection e2 with e3 e4
                subst e3 e4
                simp only [Nat.zero_add] at d0 d1 d2 d3 d4 d5 d6
                obtain ⟨x0, x1, x2, x3, x4, x5, x6⟩ := HXC.out _ (HBL.out.trans (hbi.out.mono hs7))
                have hgo := posN_go Pick.tick (x := x) hq1
                have hst := posN_stop Pick.tick (x := x) hq1
                rw [Hq.out] at hgo hst
                have hgy := Hgd.out k o[q'] (by rw [← Ho.out]; exact List.getElem_mem hq1)
                generalize o[q'] = y at *
                have Hgo := Lib.hid hgo
                have Hst := Lib.hid hst
                have hqz : (q' : Int) < (o.length : Int) := by omega
                have hqz0 : (0 : Int) ≤ (q' : Int) := by omega
                have hwk := IntWalk.i64_in (q' : Int) (by omega)
                clear hgo hst
                by_cases hxy : x.tick < y.tick
                · have H1 := Lib.hid (Hgo.out hxy)
                  go_wp2_with fail
                  go_quiet (fail)
                  go_wp2
                  go_roundw
                  case rel => exact ⟨q', by omega, by go_num, H1.out.symm, below_drewN hbi.out _⟩
                  case measure => simp [intOf] <;> omega
                · have H1 := Lib.hid (Hst.out hxy)
                  go_wp2_with fail
                  go_quiet (fail)
                  go_wp2
                  all_goals go_meet
                  all_goals exact ⟨by rw [H1.out]; go_num, below_drewN hbi.out _⟩
          case rest =>
            obtain ⟨rfl, hbx⟩ := hcut
            obtain ⟨wx, rfl⟩ : ∃ wx : World, wx = wc := ⟨_, rfl⟩
            have HOx := Lib.hid (hown.out.keep hbx)
            have HBx := Lib.hid (HBL.out.trans (hbx.mono hs7))
            have HAx := Lib.hid (hblA.out.trans (hbx.mono hblA.out.size))
            have HYR := Lib.hid (Hy.out)
            clear hbx c0 c1 c2 c3 c4 c5 c6
            obtain ⟨c0, c1, c2, c3, c4, c5, c6⟩ := HXC.out _ HBx.out
            have hbb : b < wx.heap.size := by have := HBx.out.size; omega
            have HS := Lib.hid (fun (w' : World) (hW : Below wx.heap.size wx w') => (show w'.cell? ⟨b, off + k * 7, none⟩ = some (.int .i64 x.id) ∧ w'.cell? ⟨b, off + k * 7 + 1, none⟩ = some (.int .i64 x.station) ∧ w'.cell? ⟨b, off + k * 7 + 2, none⟩ = some (.int .i64 x.wave) ∧ w'.cell? ⟨b, off + k * 7 + 3, none⟩ = some (.int .i64 x.tick) ∧ w'.cell? ⟨b, off + k * 7 + 4, none⟩ = some (.int .i64 x.err) ∧ w'.cell? ⟨b, off + k * 7 + 5, none⟩ = some (.int .i64 x.by_) ∧ w'.cell? ⟨b, off + k * 7 + 6, none⟩ = some (.int .i64 x.after_) from HXC.out _ (HBx.out.trans (hW.mono HBx.out.size))))
            have hord := Own.rd' encP_len HOx.out
            have hpi : (p : Int) ≤ (o.length : Int) := by omega
            have hpi0 : (0 : Int) ≤ (p : Int) := by omega
            have hpic : (p : Int) ≤ (cp : Int) := by omega
            have hpnc : p ≤ cp := by omega
            have hcp9 : (cp : Int) ≤ 9223372036854775807 := by unfold maxLen at hcm; omega
            go_wp2_with fail
            have HO1 := Lib.hid ((Own.empty (enc := encP) (k := 7) wx wx.heap.size 25 (Nat.le_refl _)).keep (show Below _ _ (wx.alloc (.cells #[] 25)).drew from (Below.refl _ _).drew))
            have HO2 := Lib.hid (((Own.empty (enc := encP) (k := 7) wx wx.heap.size 25 (Nat.le_refl _)).alloc (.cells #[.int .i64 x.id, .int .i64 x.station, .int .i64 x.wave, .int .i64 x.tick, .int .i64 x.err, .int .i64 x.by_, .int .i64 x.after_] 25)).keep (show Below _ _ ((wx.alloc (.cells #[] 25)).alloc (.cells #[.int .i64 x.id, .int .i64 x.station, .int .i64 x.wave, .int .i64 x.tick, .int .i64 x.err, .int .i64 x.by_, .int .i64 x.after_] 25)).drew from (Below.refl _ _).drew))
            have HN2 : Hid (Blk ((wx.alloc (.cells #[] 25)).alloc (.cells #[.int .i64 x.id, .int .i64 x.station, .int .i64 x.wave, .int .i64 x.tick, .int .i64 x.err, .int .i64 x.by_, .int .i64 x.after_] 25)).drew (wx.heap.size + 1) 25 #[.int .i64 x.id, .int .i64 x.station, .int .i64 x.wave, .int .i64 x.tick, .int .i64 x.err, .int .i64 x.by_, .int .i64 x.after_]) := by
              have hq := (Blk.new (wx.alloc (.cells #[] 25)) 25 #[.int .i64 x.id, .int .i64 x.station, .int .i64 x.wave, .int .i64 x.tick, .int .i64 x.err, .int .i64 x.by_, .int .i64 x.after_]).drew
              simp at hq
              exact hq
            have HO3 : Hid (Own encP 7 ((wx.alloc (.cells #[.int .i64 x.id, .int .i64 x.station, .int .i64 x.wave, .int .i64 x.tick, .int .i64 x.err, .int .i64 x.by_, .int .i64 x.after_] 25)).alloc (.cells #[] 25)).drew wx.heap.size 25 (.slice (some ⟨wx.heap.size + 1, 0, none⟩) 0 0) []) := by
              have hq := (Own.empty (enc := encP) (k := 7) (wx.alloc (.cells #[.int .i64 x.id, .int .i64 x.station, .int .i64 x.wave, .int .i64 x.tick, .int .i64 x.err, .int .i64 x.by_, .int .i64 x.after_] 25)) wx.heap.size 25 (by simp)).keep (Below.refl _ _).drew
              simp at hq
              exact hq
            have HN3 := Lib.hid (show Blk ((wx.alloc (.cells #[.int .i64 x.id, .int .i64 x.station, .int .i64 x.wave, .int .i64 x.tick, .int .i64 x.err, .int .i64 x.by_, .int .i64 x.after_] 25)).alloc (.cells #[] 25)).drew wx.heap.size 25 #[.int .i64 x.id, .int .i64 x.station, .int .i64 x.wave, .int .i64 x.tick, .int .i64 x.err, .int .i64 x.by_, .int .i64 x.after_] from ((Blk.new wx _ _).alloc _).drew)
            have HsA := Lib.hid (fun (W : World) (hW : Below wx.heap.size wx W) => ((hord.below hW).take p).flat_ encP_len (by omega))
            have htl : (o.take p).length = p := by rw [List.length_take]; omega
            have Htl := Lib.hid htl
            have hdl : (o.drop p).length = o.length - p := by rw [List.length_drop]
            have Hdl := Lib.hid hdl
            clear htl hdl
            by_cases hpc : p = cp
            · have hdn : o.drop p = [] := List.drop_of_length_le (by omega)
              subst hpc
              have HsC := Lib.hid (fun (W : World) (ad : Addr) (j : Nat) (u : Value) (hu : (flat encP (o.drop p))[j]? = some u) => (show W.cell? (ad.add j) = some u from by rw [hdn] at hu; simp [flat] at hu))
              clear hdn
              skip
              go_region_held3 (fun w' => w'.cell? ⟨b, off + k * 7, none⟩ = some (.int .i64 x.id) ∧ w'.cell? ⟨b, off + k * 7 + 1, none⟩ = some (.int .i64 x.station) ∧ w'.cell? ⟨b, off + k * 7 + 2, none⟩ = some (.int .i64 x.wave) ∧ w'.cell? ⟨b, off + k * 7 + 3, none⟩ = some (.int .i64 x.tick) ∧ w'.cell? ⟨b, off + k * 7 + 4, none⟩ = some (.int .i64 x.err) ∧ w'.cell? ⟨b, off + k * 7 + 5, none⟩ = some (.int .i64 x.by_) ∧ w'.cell? ⟨b, off + k * 7 + 6, none⟩ = some (.int .i64 x.after_)) (first | exact HS.out _ (by (repeat (first | with_reducible exact Below.refl _ _ | with_reducible assumption | with_reducible refine Below.setCell ?_ (by simp <;> omega) _ | with_reducible refine Below.alloc ?_ (by first | omega | (simp <;> omega)) _ | with_reducible refine Below.drew ?_ | with_reducible refine below_drewN ?_ _))) | go_keep) (first | (refine step_appL (by rfl) _ _ 31 (by rfl) wx.heap.size 25 i0 _ 7 56 Try.underlying31 hi hz0 hz1 hz2 rfl (by omega) (by omega) encP encP_len encP_one _ [] (o.take p) _ _ _ _ (by rfl) (by rfl) (by first | exact HO1.out | exact HO2.out | exact HO3.out) Htl.out (HsA.out _ (by (repeat (first | with_reducible exact Below.refl _ _ | with_reducible assumption | with_reducible refine Below.setCell ?_ (by simp <;> omega) _ | with_reducible refine Below.alloc ?_ (by first | omega | (simp <;> omega)) _ | with_reducible refine Below.drew ?_ | with_reducible refine below_drewN ?_ _)))) (by simp; omega) (by first | omega | (simp <;> omega)) ?_; intro v5 w5 hown5 hbl5 hgr5; rw [List.nil_append] at hown5; have hb5 := Below.trans (show Below wx.heap.size wx _ from (by (repeat (first | with_reducible exact Below.refl _ _ | with_reducible assumption | with_reducible refine Below.setCell ?_ (by simp <;> omega) _ | with_reducible refine Below.alloc ?_ (by first | omega | (simp <;> omega)) _ | with_reducible refine Below.drew ?_ | with_reducible refine below_drewN ?_ _)))) hbl5; have hs5 := hb5.size; (try (have HN5a := Lib.hid (HN2.out.grown hgr5 (fun e9 => Nat.succ_ne_self wx.heap.size (Option.some.inj e9))))); (try (have HN5b := Lib.hid (HN3.out.grown hgr5 (fun e9 => Nat.succ_ne_self wx.heap.size (Option.some.inj e9).symm)))); have Hown5 := Lib.hid hown5; clear hown5 hbl5 hgr5) | (refine step_app1 (by rfl) _ _ 31 (by rfl) wx.heap.size 25 i0 _ 7 56 Try.underlying31 hi hz0 hz1 hz2 rfl (by omega) (by omega) encP encP_len encP_one _ (o.take p) x #[.int .i64 x.id, .int .i64 x.station, .int .i64 x.wave, .int .i64 x.tick, .int .i64 x.err, .int .i64 x.by_, .int .i64 x.after_] (by rfl) _ _ _ (by rfl) (by rfl) (by first | exact Hown5.out | exact Hown5.out.alloc _ | exact (Hown5.out.alloc _).keep (Below.refl _ _).drew | exact Hown5.out.keep (Below.refl _ _).drew) (by first | exact HN5a.out | exact HN5b.out | exact Blk.new _ _ _ | exact HN5a.out.drew | exact HN5b.out.drew | exact (Blk.new _ _ _).drew) (by rw [Htl.out]; omega) (by first | omega | (simp <;> omega)) ?_; intro v6 w6 hown6 hbl6 hgr6; have hb6 := Below.trans (show Below wx.heap.size wx _ from (by (repeat (first | with_reducible exact Below.refl _ _ | with_reducible assumption | with_reducible refine Below.setCell ?_ (by simp <;> omega) _ | with_reducible refine Below.alloc ?_ (by first | omega | (simp <;> omega)) _ | with_reducible refine Below.drew ?_ | with_reducible refine below_drewN ?_ _)))) hbl6; have hs6 := hb6.size; have Hown6 := Lib.hid hown6; clear hown6 hbl6 hgr6) | (refine step_appL (by rfl) _ _ 31 (by rfl) wx.heap.size 25 i0 _ 7 56 Try.underlying31 hi hz0 hz1 hz2 rfl (by omega) (by omega) encP encP_len encP_one _ (o.take p ++ [x]) (o.drop p) _ _ _ _ (by rfl) (by rfl) (by first | exact Hown6.out | exact Hown6.out.keep (Below.refl _ _).drew) (by first | exact Hdl.out | (rw [Hdl.out]; omega)) (HsC.out _ _) (by simp [Htl.out]; omega) (by first | omega | (simp <;> omega)) ?_; intro v7 w7 hown7 hbl7 hgr7; have hb7 := Below.trans (show Below wx.heap.size wx _ from (by (repeat (first | with_reducible exact Below.refl _ _ | with_reducible assumption | with_reducible refine Below.setCell ?_ (by simp <;> omega) _ | with_reducible refine Below.alloc ?_ (by first | omega | (simp <;> omega)) _ | with_reducible refine Below.drew ?_ | with_reducible refine below_drewN ?_ _)))) hbl7; have hs7 := hb7.size; clear hbl7 hgr7))
              all_goals
                have hO := hown7
                have hpe : o.take p ++ [x] ++ o.drop p = insL Pick.tick o x := by unfold insL; rw [Hp.out, List.append_assoc]; rfl
                rw [hpe, ← HYR.out] at hO
                have hl1 : (ordP l (k + 1)).length ≤ 13 := by have := ordP_len l (k + 1); omega
                have hl0 : 0 < (ordP l (k + 1)).length := by rw [HYR.out, insL_len]; omega
                obtain ⟨A9, c9, e9, hc9, _⟩ := Own.form encP_len hO
                subst e9
                obtain ⟨g9, cs9, e9, _⟩ := hO.blk hl0
                subst e9
                have HO9 := Lib.hid (hO.mono (show w.heap.size ≤ wx.heap.size from HBx.out.size))
                have HA9 := Lib.hid (HAx.out.trans (hb7.mono HAx.out.size))
                clear hO hpe hown7 hb7
                go_wp2
                go_roundw
                case rel => exact ⟨k + 1, g9, c9, ordP l (k + 1), by omega, by go_num, rfl, hc9, rfl, HO9.out, HA9.out⟩
                case measure => simp [intOf]; omega
            · have hpc2 : ¬ cp = p := fun e => hpc e.symm
              have HsC := Lib.hid (fun (W : World) (hW : Below wx.heap.size wx W) => (show ∀ j u, (flat encP (o.drop p))[j]? = some u → W.cell? ((⟨g, p * 7, none⟩ : Addr).add j) = some u from by have hq := ((hord.below hW).drop p).flat_ encP_len (by omega); rwa [Nat.zero_add] at hq))
              skip
              go_region_held3 (fun w' => w'.cell? ⟨b, off + k * 7, none⟩ = some (.int .i64 x.id) ∧ w'.cell? ⟨b, off + k * 7 + 1, none⟩ = some (.int .i64 x.station) ∧ w'.cell? ⟨b, off + k * 7 + 2, none⟩ = some (.int .i64 x.wave) ∧ w'.cell? ⟨b, off + k * 7 + 3, none⟩ = some (.int .i64 x.tick) ∧ w'.cell? ⟨b, off + k * 7 + 4, none⟩ = some (.int .i64 x.err) ∧ w'.cell? ⟨b, off + k * 7 + 5, none⟩ = some (.int .i64 x.by_) ∧ w'.cell? ⟨b, off + k * 7 + 6, none⟩ = some (.int .i64 x.after_)) (first | exact HS.out _ (by (repeat (first | with_reducible exact Below.refl _ _ | with_reducible assumption | with_reducible refine Below.setCell ?_ (by simp <;> omega) _ | with_reducible refine Below.alloc ?_ (by first | omega | (simp <;> omega)) _ | with_reducible refine Below.drew ?_ | with_reducible refine below_drewN ?_ _))) | go_keep) (first | (refine step_appL (by rfl) _ _ 31 (by rfl) wx.heap.size 25 i0 _ 7 56 Try.underlying31 hi hz0 hz1 hz2 rfl (by omega) (by omega) encP encP_len encP_one _ [] (o.take p) _ _ _ _ (by rfl) (by rfl) (by first | exact HO1.out | exact HO2.out | exact HO3.out) Htl.out (HsA.out _ (by (repeat (first | with_reducible exact Below.refl _ _ | with_reducible assumption | with_reducible refine Below.setCell ?_ (by simp <;> omega) _ | with_reducible refine Below.alloc ?_ (by first | omega | (simp <;> omega)) _ | with_reducible refine Below.drew ?_ | with_reducible refine below_drewN ?_ _)))) (by simp; omega) (by first | omega | (simp <;> omega)) ?_; intro v5 w5 hown5 hbl5 hgr5; rw [List.nil_append] at hown5; have hb5 := Below.trans (show Below wx.heap.size wx _ from (by (repeat (first | with_reducible exact Below.refl _ _ | with_reducible assumption | with_reducible refine Below.setCell ?_ (by simp <;> omega) _ | with_reducible refine Below.alloc ?_ (by first | omega | (simp <;> omega)) _ | with_reducible refine Below.drew ?_ | with_reducible refine below_drewN ?_ _)))) hbl5; have hs5 := hb5.size; (try (have HN5a := Lib.hid (HN2.out.grown hgr5 (fun e9 => Nat.succ_ne_self wx.heap.size (Option.some.inj e9))))); (try (have HN5b := Lib.hid (HN3.out.grown hgr5 (fun e9 => Nat.succ_ne_self wx.heap.size (Option.some.inj e9).symm)))); have Hown5 := Lib.hid hown5; clear hown5 hbl5 hgr5) | (refine step_app1 (by rfl) _ _ 31 (by rfl) wx.heap.size 25 i0 _ 7 56 Try.underlying31 hi hz0 hz1 hz2 rfl (by omega) (by omega) encP encP_len encP_one _ (o.take p) x #[.int .i64 x.id, .int .i64 x.station, .int .i64 x.wave, .int .i64 x.tick, .int .i64 x.err, .int .i64 x.by_, .int .i64 x.after_] (by rfl) _ _ _ (by rfl) (by rfl) (by first | exact Hown5.out | exact Hown5.out.alloc _ | exact (Hown5.out.alloc _).keep (Below.refl _ _).drew | exact Hown5.out.keep (Below.refl _ _).drew) (by first | exact HN5a.out | exact HN5b.out | exact Blk.new _ _ _ | exact HN5a.out.drew | exact HN5b.out.drew | exact (Blk.new _ _ _).drew) (by rw [Htl.out]; omega) (by first | omega | (simp <;> omega)) ?_; intro v6 w6 hown6 hbl6 hgr6; have hb6 := Below.trans (show Below wx.heap.size wx _ from (by (repeat (first | with_reducible exact Below.refl _ _ | with_reducible assumption | with_reducible refine Below.setCell ?_ (by simp <;> omega) _ | with_reducible refine Below.alloc ?_ (by first | omega | (simp <;> omega)) _ | with_reducible refine Below.drew ?_ | with_reducible refine below_drewN ?_ _)))) hbl6; have hs6 := hb6.size; have Hown6 := Lib.hid hown6; clear hown6 hbl6 hgr6) | (refine step_appL (by rfl) _ _ 31 (by rfl) wx.heap.size 25 i0 _ 7 56 Try.underlying31 hi hz0 hz1 hz2 rfl (by omega) (by omega) encP encP_len encP_one _ (o.take p ++ [x]) (o.drop p) _ _ _ _ (by rfl) (by rfl) (by first | exact Hown6.out | exact Hown6.out.keep (Below.refl _ _).drew) (by first | exact Hdl.out | (rw [Hdl.out]; omega)) (HsC.out _ (by (repeat (first | with_reducible exact Below.refl _ _ | with_reducible assumption | with_reducible refine Below.setCell ?_ (by simp <;> omega) _ | with_reducible refine Below.alloc ?_ (by first | omega | (simp <;> omega)) _ | with_reducible refine Below.drew ?_ | with_reducible refine below_drewN ?_ _)))) (by simp [Htl.out]; omega) (by first | omega | (simp <;> omega)) ?_; intro v7 w7 hown7 hbl7 hgr7; have hb7 := Below.trans (show Below wx.heap.size wx _ from (by (repeat (first | with_reducible exact Below.refl _ _ | with_reducible assumption | with_reducible refine Below.setCell ?_ (by simp <;> omega) _ | with_reducible refine Below.alloc ?_ (by first | omega | (simp <;> omega)) _ | with_reducible refine Below.drew ?_ | with_reducible refine below_drewN ?_ _)))) hbl7; have hs7 := hb7.size; clear hbl7 hgr7))
              all_goals
                have hO := hown7
                have hpe : o.take p ++ [x] ++ o.drop p = insL Pick.tick o x := by unfold insL; rw [Hp.out, List.append_assoc]; rfl
                rw [hpe, ← HYR.out] at hO
                have hl1 : (ordP l (k + 1)).length ≤ 13 := by have := ordP_len l (k + 1); omega
                have hl0 : 0 < (ordP l (k + 1)).length := by rw [HYR.out, insL_len]; omega
                obtain ⟨A9, c9, e9, hc9, _⟩ := Own.form encP_len hO
                subst e9
                obtain ⟨g9, cs9, e9, _⟩ := hO.blk hl0
                subst e9
                have HO9 := Lib.hid (hO.mono (show w.heap.size ≤ wx.heap.size from HBx.out.size))
                have HA9 := Lib.hid (HAx.out.trans (hb7.mono HAx.out.size))
                clear hO hpe hown7 hb7
                go_wp2
                go_roundw
                case rel => exact ⟨k + 1, g9, c9, ordP l (k + 1), by omega, by go_num, rfl, hc9, rfl, HO9.out, HA9.out⟩
                case measure => simp [intOf]; omega
      · have hke : k = l.length := by omega
        subst hke
        have hoM : o = M := by rw [Ho.out]; exact Hall.out
        subst hoM
        have hOM := hown.out
        have HOM := Lib.hid hOM
        have HOI := Lib.hid (HOIA.out.keep hblA.out)
        have HBI := Lib.hid HBL.out
        obtain ⟨wm, hwm⟩ : ∃ wm, wm = wr := ⟨_, rfl⟩
        have HOff : Hid (Off 3 wm wr) := by show Off _ _ _; rw [hwm]; exact Off.refl _ _
        rw [← hwm] at HOM
        clear hOM hwm hown hblA HBL
        go_wp2
        go_loopw [4, 8] (fun v i wr => ∃ k : Nat, k ≤ o.length ∧ i = .int .i64 k ∧ Hid (Own encI 1 wr w.heap.size 3 v ((o.take k).map Pick.id)) ∧ Hid (Off 3 wm wr) ∧ Hid (Below w.heap.size w wr)) (fun _ i _ => o.length - (intOf i).toNat)
        case atStart => exact ⟨0, Nat.zero_le _, rfl, (by show Own _ _ _ _ _ _ _; simpa using HOI.out), HOff.out, HBI.out⟩
        case round =>
          obtain ⟨k, hkM, rfl, hown, hoff, hbl⟩ := hrel
          by_cases hlt : k < o.length
          · have hnx : (o.take (k + 1)).map Pick.id = (o.take k).map Pick.id ++ [o[k].id] := by rw [List.take_succ_eq_append_getElem hlt, List.map_append]; rfl
            have hfl : ((o.take k).map Pick.id).length ≤ 1048576 := by rw [List.length_map, List.length_take]; omega
            obtain ⟨b, off, e', hb, c0, c1, c2, c3, c4, c5, c6⟩ := cellsP (Own.rd' encP_len (HOM.out.off (by decide) hoff.out)) hlt
            first | subst e' | (injection e' with e'; injection e' with e1 e2; subst e1 e2)
            obtain ⟨L, hL⟩ : ∃ L, (o.take k).map Pick.id = L := ⟨_, rfl⟩
            obtain ⟨x, hx⟩ : ∃ x, o[k] = x := ⟨_, rfl⟩
            rw [hL] at hnx hfl hown
            rw [hx] at hnx c0 c1 c2 c3 c4 c5 c6
            have Hnx := Lib.hid hnx
            have hsz := hbl.out.size
            have hkz : (k : Int) < (o.length : Int) := by omega
            clear hL hx hnx
            simp only [Nat.zero_add] at c0
            obtain ⟨A9, c9, rfl, _, _⟩ := Own.form encI_len hown.out
            have Hown := Lib.hid hown.out
            have Hoff := Lib.hid hoff.out
            clear hown hoff
            go_wp2_with (at_builtin; refine wpList_app1 rfl _ _ 42 rfl w.heap.size 3 j0 _ 1 8 Try.underlying42 ji jz0 jz1 jz2 rfl (by omega) (by omega) encI encI_len encI_one (.slice A9 L.length c9) L x.id wr _ rfl _ rfl Hown.out rfl hfl hsz ?_; intro v9 w9 hown9 hb9 hg9)
            have HO9 := Lib.hid hown9
            have HF9 := Lib.hid (Hoff.out.trans (Off.of_grown Hown.out hg9))
            have HB9 := Lib.hid (hbl.out.trans hb9)
            clear hown9 hb9 hg9 c0 c1 c2 c3 c4 c5 c6
            go_wp2
            go_roundw
            case rel => exact ⟨k + 1, by omega, by go_num, by rw [Hnx.out]; exact HO9.out, HF9.out, HB9.out⟩
            case measure => simp [intOf]; omega
          · have hke : k = o.length := by omega
            subst hke
            rw [List.take_length] at hown
            obtain ⟨A9, c9, rfl, hc9, _⟩ := Own.form encI_len hown.out
            have HO9 := Lib.hid hown.out
            clear hown
            go_wp2
            go_ret2
            exact ⟨_, _, rfl, hc9, HO9.out, hbl.out⟩
end Go.Proofs.Ytiakaglgfboepaa
