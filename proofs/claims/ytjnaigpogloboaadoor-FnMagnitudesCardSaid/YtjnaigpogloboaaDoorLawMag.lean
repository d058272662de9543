/-
  FnMagnitudes: walked. (Printed by gen_E12.py.)
-/
import Derived.Test.YtjnaigpogloboaaDoorDE
import Derived.Test.YtjnaigpogloboaaDoorMgLaw
import Derived.Test.YtjnaigpogloboaaDoorMagTx
import Derived.Test.YtjnaigpogloboaaDoorMagOf
import Derived.Deep.CutRange
import Derived.Deep.DeepCutAuto
import Derived.Deep.CutBlock
import Derived.Test.YtjnaigpogloboaaDoorRLib
namespace Go.Proofs.YtjnaigpogloboaaDoor
set_option linter.unusedVariables false
open Go.RowKit

set_option maxRecDepth 100000 in
set_option maxHeartbeats 8000000 in
theorem law_FnMagnitudes (A0 : Option Addr) (c0 : Nat) (l0 : List Int) (w : World) (h0 : Rd encB 1 w w.heap.size A0 l0) (m0 : l0.length ≤ maxLen) (wf0 : ∀ n ∈ l0, (Lit.int .u8 n).wf = true) (HP : Pow10 w) :
    Calls Tryd.prog 10 #[.slice A0 l0.length c0] w fun e w' => e = .returned (.bool true) ∧ Below w.heap.size w w' := by
  unfold maxLen at m0
  by_cases hbig : 65536 < (l0.length : Int)
  · go_enter Tryd.func10, Tryd.ntmps10
    go_wp2_with fail
    refine (rBig_any _ _ _ _ (by omega)).mono ?_
    rintro e w' ⟨rfl, rfl⟩
    rw [show decide (65536 < (l0.length : Int)) = true from decide_eq_true (by omega)]
    go_wp2
    go_ret
    exact ⟨rfl, Below.refl _ _⟩
  · have hl0 : l0.length ≤ 1048576 := by omega
    have Hby := Lib.hid (bytes_of wf0)
    have HR0 := Lib.hid (fun (W : World) (hW : Below w.heap.size w W) => (h0.below hW).more hW.size)
    clear wf0 h0
    go_enter Tryd.func10, Tryd.ntmps10
    go_wp2_with fail
    refine (rBig_any _ _ _ _ (by omega)).mono ?_
    rintro e w' ⟨rfl, rfl⟩
    rw [show decide (65536 < (l0.length : Int)) = false from decide_eq_false (by omega)]
    have HB0 := Lib.hid (Below.refl w.heap.size w)
    go_wp2_with fail
    refine (DrawLeastWidth_any A0 c0 l0 _ (HR0.out _ HB0.out) hl0 Hby.out).mono ?_
    rintro e w1 ⟨Ax, cx, lx, far, mag, rfl, hllx, hcx, hown, hb1⟩
    have Ox := Lib.hid hown
    have hlx : lx.length ≤ 1048576 := by omega
    clear hown
    have HB1 := Lib.hid (HB0.out.trans (hb1.mono HB0.out.size))
    clear hb1
    go_wp2_with fail
    refine (LeastWidth_ex Ax cx lx far mag _ (Own.rd' encT_len Ox.out) hlx (HP.after HB1.out (Nat.le_refl _))).mono ?_
    rintro e w2 ⟨⟨a, ok, hr, rfl⟩, hb2⟩
    have HB2 := Lib.hid (HB1.out.trans (hb2.mono HB1.out.size))
    have Ox_2 := Lib.hid (Ox.out.keep hb2)
    clear hb2
    go_wp2_with fail
    refine (sLeastWidth_ex Ax cx lx far mag _ (Own.rd' encT_len Ox_2.out) hlx).mono ?_
    rintro e w3 ⟨⟨a2, ok2, hr2, rfl⟩, hb3⟩
    have HB3 := Lib.hid (HB2.out.trans (hb3.mono HB2.out.size))
    have Ox_3 := Lib.hid (Ox_2.out.keep hb3)
    clear hb3
    obtain ⟨e1, e2⟩ := hr.unique hr2
    subst e1 e2
    have Hr := Lib.hid hr
    clear hr hr2
    go_upto_if 70 with (fail)
    go_cut [] (fun wx => Below w.heap.size w wx)
    case first =>
      cases ok with
      | false =>
        go_wp2_with fail
        all_goals go_meet
        all_goals exact HB3.out
      | true =>
        obtain ⟨⟨ha1, ha2⟩, f1, f2, f3⟩ := lw_hit Hr.out
        have Hf1 := Lib.hid f1
        clear f1
        obtain ⟨n1, hn1⟩ : ∃ z, MOv lx ⟨1, far, a, 0⟩ = z := ⟨_, rfl⟩
        have Hn1 := Lib.hid hn1
        clear hn1
        rw [Hn1.out] at f2
        have f2b : ¬ n1 < mag := by omega
        clear f2
        obtain ⟨n2, hn2⟩ : ∃ z, MOv lx ⟨1, far, a - 1, 0⟩ = z := ⟨_, rfl⟩
        have Hn2 := Lib.hid hn2
        clear hn2
        obtain ⟨two, htwo⟩ : ∃ z, MOok lx ⟨1, far, a - 1, 0⟩ = z := ⟨_, rfl⟩
        have Htwo := Lib.hid htwo
        clear htwo
        rw [Hn2.out, Htwo.out] at f3
        have Hf3 := Lib.hid f3
        clear f3
        go_wp2_with fail
        refine (MagnitudeOf_any Ax cx lx ⟨1, far, a, 0⟩ _ (Own.rd' encT_len Ox_3.out) hlx (HP.after HB3.out (Nat.le_refl _))).mono ?_
        rintro e w4 ⟨rfl, hb4⟩
        rw [Hn1.out, Hf1.out]
        have HB4 := Lib.hid (HB3.out.trans (hb4.mono HB3.out.size))
        have Ox_4 := Lib.hid (Ox_3.out.keep hb4)
        clear hb4
        go_wp2_with fail
        refine (MagnitudeOf_any Ax cx lx ⟨1, far, a - 1, 0⟩ _ (Own.rd' encT_len Ox_4.out) hlx (HP.after HB4.out (Nat.le_refl _))).mono ?_
        rintro e w5 ⟨rfl, hb5⟩
        rw [Hn2.out, Htwo.out]
        have HB5 := Lib.hid (HB4.out.trans (hb5.mono HB4.out.size))
        have Ox_5 := Lib.hid (Ox_4.out.keep hb5)
        clear hb5
        cases two with
        | false =>
          go_wp2
          all_goals go_meet
          all_goals exact HB5.out
        | true =>
          have f4 := Hf3.out rfl
          have f5 : ¬ mag ≤ n2 := by omega
          go_wp2
          all_goals go_meet
          all_goals exact HB5.out
    case rest =>
      obtain ⟨w20, rfl⟩ : ∃ w20 : World, w20 = wc := ⟨_, rfl⟩
      have HB20 := Lib.hid hcut
      clear hcut
      clear Ox Hr
      go_wp2_with fail
      refine (DrawSizeOf_any A0 c0 l0 _ (HR0.out _ HB20.out) hl0 Hby.out).mono ?_
      rintro e w21 ⟨d, rfl, ⟨hd0, hd1⟩, hb21⟩
      have HB21 := Lib.hid (HB20.out.trans (hb21.mono HB20.out.size))
      clear hb21
      obtain ⟨z, hz⟩ : ∃ z, (szOut d).1 = z := ⟨_, rfl⟩
      have Hz := Lib.hid hz
      clear hz
      obtain ⟨fine, hfine⟩ : ∃ z, (szOut d).2 = z := ⟨_, rfl⟩
      have Hfine := Lib.hid hfine
      clear hfine
      obtain ⟨more, hmore⟩ : ∃ z, (szOut (d + 1)).1 = z := ⟨_, rfl⟩
      have Hmore := Lib.hid hmore
      clear hmore
      obtain ⟨one, hone⟩ : ∃ z, (szOut (d + 1)).2 = z := ⟨_, rfl⟩
      have Hone := Lib.hid hone
      clear hone
      have hmn : fine = true → one = true → z ≤ more := fun h1 h2 => by rw [← Hz.out, ← Hmore.out]; exact szOut_mono (Hfine.out.trans h1) (Hone.out.trans h2)
      have Hmn := Lib.hid hmn
      clear hmn
      go_wp2_with fail
      refine (iSizeOf_any d _ (HP.after HB21.out (Nat.le_refl _))).mono ?_
      rintro e w22 ⟨rfl, hb22⟩
      rw [Hz.out, Hfine.out]
      have HB22 := Lib.hid (HB21.out.trans (hb22.mono HB21.out.size))
      clear hb22
      go_wp2_with fail
      refine (sSizeOf_any d _).mono ?_
      rintro e w' ⟨rfl, rfl⟩
      rw [Hz.out, Hfine.out]
      go_wp2_with fail
      refine (iSizeOf_any (d + 1) _ (HP.after HB22.out (Nat.le_refl _))).mono ?_
      rintro e w23 ⟨rfl, hb23⟩
      rw [Hmore.out, Hone.out]
      have HB23 := Lib.hid (HB22.out.trans (hb23.mono HB22.out.size))
      clear hb23
      go_upto_region 21 with (fail)
      go_cut [135] (fun v wx => v = .bool false ∧ wx = w23)
      case first =>
        cases fine with
        | false =>
          go_wp2_with fail
          all_goals go_meet
          all_goals exact ⟨rfl, rfl⟩
        | true =>
          cases one with
          | false =>
            go_wp2_with fail
            all_goals go_meet
            all_goals exact ⟨rfl, rfl⟩
          | true =>
            have f5 := Hmn.out rfl rfl
            have f6 : ¬ more < z := by omega
            go_wp2_with fail
            all_goals go_meet
            all_goals exact ⟨rfl, rfl⟩
      case rest =>
        obtain ⟨rfl, rfl⟩ := hcut
        clear Hz Hfine Hmore Hone Hmn hd0 hd1
        go_wp2_with fail
        refine (DrawBonusAt_any A0 c0 l0 _ (HR0.out _ HB23.out) hl0 Hby.out).mono ?_
        rintro e w24 ⟨Ay, cy, ly, x, rfl, hlly, hcy, hown, ⟨hx0, hx1⟩, hb24⟩
        have Oy := Lib.hid hown
        have hly : ly.length ≤ 1048576 := by omega
        clear hown
        have HB24 := Lib.hid (HB23.out.trans (hb24.mono HB23.out.size))
        clear hb24
        obtain ⟨z, hz⟩ : ∃ z, BAv ly x = z := ⟨_, rfl⟩
        have Hz := Lib.hid hz
        clear hz
        obtain ⟨fine, hfine⟩ : ∃ z, BAok ly x = z := ⟨_, rfl⟩
        have Hfine := Lib.hid hfine
        clear hfine
        obtain ⟨more, hmore⟩ : ∃ z, BAv ly (x + 1) = z := ⟨_, rfl⟩
        have Hmore := Lib.hid hmore
        clear hmore
        obtain ⟨one, hone⟩ : ∃ z, BAok ly (x + 1) = z := ⟨_, rfl⟩
        have Hone := Lib.hid hone
        clear hone
        have hmn : fine = true → one = true → z ≤ more := fun h1 h2 => by rw [← Hz.out, ← Hmore.out]; exact BA_mono (Hfine.out.trans h1) (Hone.out.trans h2)
        have Hmn := Lib.hid hmn
        clear hmn
        go_wp2_with fail
        refine (BonusAt_any Ay cy ly x _ (Own.rd' encT_len Oy.out) hly).mono ?_
        rintro e w25 ⟨rfl, hb25⟩
        rw [Hz.out, Hfine.out]
        have HB25 := Lib.hid (HB24.out.trans (hb25.mono HB24.out.size))
        have Oy_25 := Lib.hid (Oy.out.keep hb25)
        clear hb25
        go_wp2_with fail
        refine (sBonusAt_any Ay cy ly x _ (Own.rd' encT_len Oy_25.out) hly).mono ?_
        rintro e w26 ⟨rfl, hb26⟩
        rw [Hz.out, Hfine.out]
        have HB26 := Lib.hid (HB25.out.trans (hb26.mono HB25.out.size))
        have Oy_26 := Lib.hid (Oy_25.out.keep hb26)
        clear hb26
        go_wp2_with fail
        refine (BonusAt_any Ay cy ly (x + 1) _ (Own.rd' encT_len Oy_26.out) hly).mono ?_
        rintro e w27 ⟨rfl, hb27⟩
        rw [Hmore.out, Hone.out]
        have HB27 := Lib.hid (HB26.out.trans (hb27.mono HB26.out.size))
        have Oy_27 := Lib.hid (Oy_26.out.keep hb27)
        clear hb27
        go_upto_region 29 with (fail)
        go_cut [176] (fun v wx => v = .bool false ∧ wx = w27)
        case first =>
          cases fine with
          | false =>
            go_wp2_with fail
            all_goals go_meet
            all_goals exact ⟨rfl, rfl⟩
          | true =>
            cases one with
            | false =>
              go_wp2_with fail
              all_goals go_meet
              all_goals exact ⟨rfl, rfl⟩
            | true =>
              have f5 := Hmn.out rfl rfl
              have f6 : ¬ more < z := by omega
              go_wp2_with fail
              all_goals go_meet
              all_goals exact ⟨rfl, rfl⟩
        case rest =>
          obtain ⟨rfl, rfl⟩ := hcut
          clear Hz Hfine Hmore Hone Hmn
          go_wp2_with fail
          refine (DrawMagnitudeOf_any A0 c0 l0 _ (HR0.out _ HB27.out) hl0 Hby.out).mono ?_
          rintro e w28 ⟨Au, cu, lu, s, rfl, hllu, hcu, hown, hb28⟩
          have Ou := Lib.hid hown
          have hlu : lu.length ≤ 1048576 := by omega
          clear hown
          have HB28 := Lib.hid (HB27.out.trans (hb28.mono HB27.out.size))
          clear hb28
          have hbx : Below w28.heap.size w28 (w28.alloc (.cells #[.int .i64 s.station, .int .i64 s.far, .int .i64 s.width, .int .i64 s.term] 37)) := by (repeat (first | with_reducible exact Below.refl _ _ | with_reducible assumption | with_reducible refine Below.setCell ?_ (by simp <;> omega) _ | with_reducible refine Below.alloc ?_ (by first | omega | (simp <;> omega)) _ | with_reducible refine Below.drew ?_ | with_reducible refine below_drewN ?_ _))
          have HX := Lib.hid (Blk.new w28 37 #[.int .i64 s.station, .int .i64 s.far, .int .i64 s.width, .int .i64 s.term])
          have HBx := Lib.hid (HB28.out.trans (hbx.mono HB28.out.size))
          have Oux := Lib.hid (Ou.out.keep hbx)
          obtain ⟨x0, x1, x2, x3⟩ := box4 HX.out
          clear hbx Ou
          obtain ⟨nv, hnv⟩ : ∃ z, MOv lu s = z := ⟨_, rfl⟩
          have Hnv := Lib.hid hnv
          clear hnv
          obtain ⟨known, hknown⟩ : ∃ z, MOok lu s = z := ⟨_, rfl⟩
          have Hknown := Lib.hid hknown
          clear hknown
          go_wp2_with fail
          refine (MagnitudeOf_any Au cu lu s _ (Own.rd' encT_len Oux.out) hlu (HP.after HBx.out (Nat.le_refl _))).mono ?_
          rintro e w29 ⟨rfl, hb29⟩
          rw [Hnv.out, Hknown.out]
          have HB29 := Lib.hid (HBx.out.trans (hb29.mono HBx.out.size))
          have Ou_29 := Lib.hid (Oux.out.keep hb29)
          have HX2 := Lib.hid (HX.out.after hb29)
          obtain ⟨y0, y1, y2, y3⟩ := box4 HX2.out
          clear hb29 x0 x1 x2 x3
          go_wp2_with fail
          refine (sMagnitudeOf_any Au cu lu s _ (Own.rd' encT_len Ou_29.out) hlu).mono ?_
          rintro e w30 ⟨rfl, hb30⟩
          rw [Hnv.out, Hknown.out]
          have HB30 := Lib.hid (HB29.out.trans (hb30.mono HB29.out.size))
          have Ou_30 := Lib.hid (Ou_29.out.keep hb30)
          clear hb30
          clear y0 y1 y2 y3
          go_wp2_with fail
          refine (DrawMagnitudeText_any A0 c0 l0 _ (HR0.out _ HB30.out) hl0 Hby.out).mono ?_
          rintro e w31 ⟨m, rfl, hb31⟩
          have HB31 := Lib.hid (HB30.out.trans (hb31.mono HB30.out.size))
          have Ou_31 := Lib.hid (Ou_30.out.keep hb31)
          clear hb31
          obtain ⟨T, b, h1, h2⟩ := magT_both m
          have G1 := Lib.hid h1
          have G2 := Lib.hid h2
          clear h1 h2
          go_wp2_with fail
          refine (G1.out _).mono ?_
          rintro e w32 ⟨rfl, hb32⟩
          have HB32 := Lib.hid (HB31.out.trans (hb32.mono HB31.out.size))
          have Ou_32 := Lib.hid (Ou_31.out.keep hb32)
          clear hb32
          go_wp2_with fail
          refine (G2.out _).mono ?_
          rintro e w33 ⟨rfl, hb33⟩
          have HB33 := Lib.hid (HB32.out.trans (hb33.mono HB32.out.size))
          have Ou_33 := Lib.hid (Ou_32.out.keep hb33)
          clear hb33
          go_wp2_with fail
          refine (IsTable_any Au cu lu _ (Own.rd' encT_len Ou_33.out) hlu).mono ?_
          rintro e w34 ⟨rfl, hb34⟩
          have HB34 := Lib.hid (HB33.out.trans (hb34.mono HB33.out.size))
          have Ou_34 := Lib.hid (Ou_33.out.keep hb34)
          clear hb34
          go_wp2_with fail
          refine (sIsTable_any Au cu lu _ (Own.rd' encT_len Ou_34.out) hlu).mono ?_
          rintro e w35 ⟨rfl, hb35⟩
          have HB35 := Lib.hid (HB34.out.trans (hb35.mono HB34.out.size))
          have Ou_35 := Lib.hid (Ou_34.out.keep hb35)
          clear hb35
          go_wp2
          go_ret
          exact ⟨rfl, HB35.out⟩

end Go.Proofs.YtjnaigpogloboaaDoor
