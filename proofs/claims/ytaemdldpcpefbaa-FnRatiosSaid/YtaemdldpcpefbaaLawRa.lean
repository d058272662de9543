/-
  FnRatios: walked. (Printed by gen_B8.py.)
-/
import Derived.Test.YtaemdldpcpefbaaDB
import Derived.Test.YtaemdldpcpefbaaRLib
import Derived.Test.YtaemdldpcpefbaaRVP
import Derived.Test.YtaemdldpcpefbaaTrMath
import Derived.Test.YtaemdldpcpefbaaRaMath
import Derived.Deep.CutRange
import Derived.Deep.DeepCutAuto
import Derived.Deep.CutBlock
import Derived.BigQuiet
import Derived.Deep.RegionHeld3
namespace Go.Proofs.Ytaemdldpcpefbaa
set_option linter.unusedVariables false
open Go.RowKit

/-- What the law asks of the greatest ratio. -/
def RaF (l : List Int) (s : Setting) (at_ nu de : Int) : Prop :=
  (2 ≤ s.long ∧ s.long ≤ 20) ∧ l.length ≤ 24 ∧ (0 ≤ nu ∧ nu ≤ 10000000 ∧ 0 < de ∧ de ≤ 10000000) ∧
  ∀ i : Nat, s.long ≤ i + 1 → i < l.length → okRA l s (i : Int) = true ∧ RAn l s (i : Int) * de ≤ nu * RAd l s (i : Int) ∧ ((i : Int) = at_ → RAn l s (i : Int) = nu ∧ RAd l s (i : Int) = de) ∧
    0 ≤ RAn l s (i : Int) ∧ RAn l s (i : Int) ≤ 10000000 ∧ 0 < RAd l s (i : Int) ∧ RAd l s (i : Int) ≤ 10000000
theorem ra_facts {l : List Int} {s : Setting} (h : okGR l s = true) : RaF l s (gP l s) (gN l s) (gD l s) := by
  have h0 := h
  simp only [okGR, Bool.and_eq_true, decide_eq_true_eq] at h0
  obtain ⟨⟨hl, hsm⟩, hg⟩ := okT_iff.1 h0.1
  obtain ⟨g1, g2, g3, g4, _⟩ := goodG_iff.1 hg
  have hne : ∃ i : Nat, s.long ≤ i + 1 ∧ i < l.length := ⟨(s.long - 1).toNat, by have := h0.2; omega, by have := h0.2; omega⟩
  obtain ⟨i1, i2, i3⟩ := hne
  obtain ⟨⟨p1, p2⟩, _⟩ := gr_top h i2 i3
  have hb := rat_bd hsm hg _ p1 p2
  rw [gP, gN, gD, if_pos h, if_pos h, if_pos h]
  refine ⟨by omega, hl, ⟨hb.1, hb.2.1, hb.2.2.1, hb.2.2.2.1⟩, fun i hi1 hi2 => ?_⟩
  have hok : okRA l s (i : Int) = true := by
    unfold okRA
    rw [h0.1, Bool.true_and, inB_iff]
    omega
  have e1 : RAn l s (i : Int) = ratN l s i := by rw [RAn, if_pos hok]; rfl
  have e2 : RAd l s (i : Int) = ratD l s i := by rw [RAd, if_pos hok]; rfl
  have hi := rat_bd hsm hg i hi1 hi2
  rw [e1, e2]
  exact ⟨hok, (gr_top h hi1 hi2).2, fun e => by rw [show i = grP l s by omega]; exact ⟨rfl, rfl⟩, hi.1, hi.2.1, hi.2.2.1, hi.2.2.2.1⟩
/-- What the law asks of the least threshold. -/
def RaL (l : List Int) (s : Setting) (q : Int) : Prop :=
  (10 ≤ s.off ∧ s.off ≤ 1000 ∧ s.off ≤ q ∧ q ≤ 1000) ∧ onL l ⟨s.short, s.long, q, s.off⟩ = [] ∧ okT l ⟨s.short, s.long, q, s.off⟩ = true ∧
  (s.off < q → okT l ⟨s.short, s.long, q - 1, s.off⟩ = true ∧ 0 < (onL l ⟨s.short, s.long, q - 1, s.off⟩).length)
theorem ral_facts {l : List Int} {s : Setting} (h : (leV l s).2 = true) : RaL l s (leV l s).1 := by
  obtain ⟨_, hg, hb, h1, h2, h3⟩ := leV_spec h
  obtain ⟨g1, g2, g3, g4, g5, g6, g7, g8⟩ := goodG_iff.1 hg
  refine ⟨by omega, h1, h2, fun hlt => ?_⟩
  obtain ⟨h4, h5⟩ := h3 hlt
  exact ⟨h4, List.length_pos_iff.2 h5⟩

set_option maxRecDepth 100000 in
set_option maxHeartbeats 8000000 in
theorem law_FnRatios (A0 : Option Addr) (c0 : Nat) (l0 : List Int) (w : World) (h0 : Rd encB 1 w w.heap.size A0 l0) (m0 : l0.length ≤ maxLen) (wf0 : ∀ n ∈ l0, (Lit.int .u8 n).wf = true) :
    Calls Try.prog 13 #[.slice A0 l0.length c0] w fun e w' => e = .returned (.bool true) ∧ Below w.heap.size w w' := by
  unfold maxLen at m0
  by_cases hbig : 65536 < (l0.length : Int)
  · go_enter Try.func13, Try.ntmps13
    go_wp2_with fail
    refine (vBig_any _ _ _ _ (by omega)).mono ?_
    rintro e w' ⟨rfl, rfl⟩
    rw [show decide (65536 < (l0.length : Int)) = true from decide_eq_true (by omega)]
    go_wp2
    go_ret
    exact ⟨rfl, Below.refl _ _⟩
  · have hl0 : l0.length ≤ 1048576 := by omega
    have Hby := Lib.hid (bytes_of wf0)
    have HR0 := Lib.hid (fun (W : World) (hW : Below w.heap.size w W) => (h0.below hW).more hW.size)
    clear wf0 h0
    go_enter Try.func13, Try.ntmps13
    go_wp2_with fail
    refine (vBig_any _ _ _ _ (by omega)).mono ?_
    rintro e w' ⟨rfl, rfl⟩
    rw [show decide (65536 < (l0.length : Int)) = false from decide_eq_false (by omega)]
    have HB0 := Lib.hid (Below.refl w.heap.size w)
    go_wp2_with fail
    refine (DrawGreatestRatio_any A0 c0 l0 _ (HR0.out _ HB0.out) hl0 Hby.out).mono ?_
    rintro e w1 ⟨Ax, cx, lx, sx, rfl, hllx, hcx, hown, hb1⟩
    have Ox := Lib.hid hown
    have hlx : lx.length ≤ 1048576 := by omega
    clear hown
    have hbk := hb1
    have HB1 := Lib.hid (HB0.out.trans (hb1.mono HB0.out.size))
    clear hb1
    clear hbk
    have hbx : Below w1.heap.size w1 (w1.alloc (.cells #[.int .i64 sx.short, .int .i64 sx.long, .int .i64 sx.on, .int .i64 sx.off] 25)) := by (repeat (first | with_reducible exact Below.refl _ _ | with_reducible assumption | with_reducible refine Below.setCell ?_ (by simp <;> omega) _ | with_reducible refine Below.alloc ?_ (by first | omega | (simp <;> omega)) _ | with_reducible refine Below.drew ?_ | with_reducible refine below_drewN ?_ _))
    have Xbx_1 := Lib.hid (Blk.new w1 25 #[.int .i64 sx.short, .int .i64 sx.long, .int .i64 sx.on, .int .i64 sx.off])
    have HBx := Lib.hid (HB1.out.trans (hbx.mono HB1.out.size))
    clear HB1
    have HB1 := HBx
    clear HBx
    have Ox_1x := Lib.hid (Ox.out.keep hbx)
    clear Ox
    obtain ⟨bx0, bx1, bx2, bx3⟩ := box4 Xbx_1.out
    clear hbx
    obtain ⟨at_, hat_⟩ : ∃ z, gP lx sx = z := ⟨_, rfl⟩
    have Hat_ := Lib.hid hat_
    clear hat_
    obtain ⟨nu, hnu⟩ : ∃ z, gN lx sx = z := ⟨_, rfl⟩
    have Hnu := Lib.hid hnu
    clear hnu
    obtain ⟨de, hde⟩ : ∃ z, gD lx sx = z := ⟨_, rfl⟩
    have Hde := Lib.hid hde
    clear hde
    obtain ⟨ok, hok⟩ : ∃ z, okGR lx sx = z := ⟨_, rfl⟩
    have Hok := Lib.hid hok
    clear hok
    have hf : ok = true → RaF lx sx at_ nu de := fun h1 => by
      have h3 := ra_facts (Hok.out.trans h1)
      rw [Hat_.out, Hnu.out, Hde.out] at h3
      exact h3
    have Hf := Lib.hid hf
    clear hf
    go_wp2_with fail
    refine (GreatestRatio_any Ax cx lx sx _ (Own.rd' encI_len Ox_1x.out) hlx hcx).mono ?_
    rintro e w2 ⟨rfl, hb2⟩
    rw [Hat_.out, Hnu.out, Hde.out, Hok.out]
    have hbk := hb2
    have HB2 := Lib.hid (HB1.out.trans (hb2.mono HB1.out.size))
    have Ox_2 := Lib.hid (Ox_1x.out.keep hb2)
    clear hb2
    have Xbx_2 := Lib.hid (Xbx_1.out.after hbk)
    clear bx0 bx1 bx2 bx3
    obtain ⟨bx0, bx1, bx2, bx3⟩ := box4 Xbx_2.out
    clear hbk
    go_wp2_with fail
    refine (sGreatestRatio_any Ax cx lx sx _ (Own.rd' encI_len Ox_2.out) hlx hcx).mono ?_
    rintro e w3 ⟨rfl, hb3⟩
    rw [Hat_.out, Hnu.out, Hde.out, Hok.out]
    have hbk := hb3
    have HB3 := Lib.hid (HB2.out.trans (hb3.mono HB2.out.size))
    have Ox_3 := Lib.hid (Ox_2.out.keep hb3)
    clear hb3
    have Xbx_3 := Lib.hid (Xbx_2.out.after hbk)
    clear bx0 bx1 bx2 bx3
    obtain ⟨bx0, bx1, bx2, bx3⟩ := box4 Xbx_3.out
    clear hbk
    go_upto_block 0 with (fail)
    go_cut [] (fun wx => Hid (Below w.heap.size w wx))
    case first =>
      cases ok with
      | false =>
        go_wp2_with fail
        go_loopw [13] (fun i wr => ∃ v : Int, i = .int .i64 v ∧ w3 = wr) (fun _ _ => 0)
        case atStart => exact ⟨_, rfl, rfl⟩
        case round =>
          obtain ⟨v, rfl, rfl⟩ := hrel
          by_cases hv : v < (lx.length : Int)
          · go_wp2
            all_goals go_meet
            all_goals exact HB3
          · go_wp2
            all_goals go_meet
            all_goals exact HB3
      | true =>
        obtain ⟨⟨f1, f2⟩, f3, f4, f5⟩ := Hf.out (by first | rfl | trivial)
        have Hf5 := Lib.hid f5
        clear f5
        obtain ⟨f4a, f4b, f4c, f4d⟩ := f4
        obtain ⟨ln, hln⟩ : ∃ ln : Nat, sx.long = (ln : Int) + 1 := ⟨(sx.long - 1).toNat, by omega⟩
        have Hln := Lib.hid hln
        have hln2 : ln ≤ 19 := by omega
        clear hln
        go_wp2_with fail
        go_loopw [13] (fun i wr => ∃ k : Nat, ln ≤ k ∧ k ≤ max ln lx.length ∧ i = .int .i64 k ∧ Hid (Below w3.heap.size w3 wr)) (fun i _ => 100 - (intOf i).toNat)
        case atStart => exact ⟨ln, Nat.le_refl _, by omega, (by rw [show sx.long - 1 = (ln : Int) from by have := Hln.out; omega]; exact congrArg _ (by unfold wrap64; omega)), Below.refl _ _⟩
        case round =>
          obtain ⟨k, hkn, hkl, rfl, hbl⟩ := hrel
          have HBr := Lib.hid (HB3.out.trans (hbl.out.mono HB3.out.size))
          by_cases hlt : k < lx.length
          · have HOr := Lib.hid (Ox_3.out.keep hbl.out)
            have HXr := Lib.hid (Xbx_3.out.after hbl.out)
            obtain ⟨r0, r1, r2, r3⟩ := box4 HXr.out
            obtain ⟨g1, g2, g3, g4, g5, g6, g7⟩ := Hf5.out k (by have := Hln.out; omega) hlt
            have hkz : (k : Int) < (lx.length : Int) := by omega
            obtain ⟨a, ha⟩ : ∃ z, RAn lx sx (k : Int) = z := ⟨_, rfl⟩
            obtain ⟨b, hb⟩ : ∃ z, RAd lx sx (k : Int) = z := ⟨_, rfl⟩
            rw [ha] at g2 g3 g4 g5
            rw [hb] at g2 g3 g6 g7
            have Hra := Lib.hid ha
            have Hrb := Lib.hid hb
            clear ha hb
            have Hg1 := Lib.hid g1
            have Hg3 := Lib.hid g3
            have hp1 : 0 ≤ a * de ∧ a * de ≤ 100000000000000 := ⟨Int.mul_nonneg g4 (by omega), Int.le_trans (Int.mul_le_mul g5 f4d (by omega) (by omega)) (by omega)⟩
            have hp2 : 0 ≤ nu * b ∧ nu * b ≤ 100000000000000 := ⟨Int.mul_nonneg f4a (by omega), Int.le_trans (Int.mul_le_mul f4b g7 (by omega) (by omega)) (by omega)⟩
            have hw1 := IntWalk.i64_in (a * de) (by omega)
            have hw2 := IntWalk.i64_in (nu * b) (by omega)
            have hle : ¬ nu * b < a * de := by omega
            have hle2 : ¬ a * de > nu * b := hle
            clear g1 g3
            go_wp2_with fail
            refine (RatioAt_any Ax cx lx sx (k : Int) _ (Own.rd' encI_len HOr.out) hlx hcx).mono ?_
            rintro e wa ⟨rfl, hba⟩
            rw [Hra.out, Hrb.out]
            rw [Hg1.out]
            have HBa := Lib.hid (hbl.out.trans (hba.mono hbl.out.size))
            clear hba r0 r1 r2 r3
            by_cases hka : (k : Int) = at_
            · obtain ⟨rfl, rfl⟩ := Hg3.out hka
              go_wp2
              go_roundw
              case rel => exact ⟨k + 1, by omega, by omega, by go_num, HBa.out⟩
              case measure => simp [intOf]; omega
            · have hka2 : ((k : Int) == at_) = false := by simp [hka]
              go_wp2
              go_roundw
              case rel => exact ⟨k + 1, by omega, by omega, by go_num, HBa.out⟩
              case measure => simp [intOf]; omega
          · have hkz : ¬ (k : Int) < (lx.length : Int) := by omega
            go_wp2
            all_goals go_meet
            all_goals exact HBr
    case rest =>
      have hcut := hcut.out
      obtain ⟨w30, rfl⟩ : ∃ w30 : World, w30 = wc := ⟨_, rfl⟩
      have HB30 := Lib.hid hcut
      clear hcut
      clear bx0 bx1 bx2 bx3 Hat_ Hnu Hde Hok Hf
      go_wp2_with fail
      refine (DrawLeastOn_any A0 c0 l0 _ (HR0.out _ HB30.out) hl0 Hby.out).mono ?_
      rintro e w31 ⟨Ay, cy, ly, sy, rfl, hlly, hcy, hown, hb31⟩
      have Oy := Lib.hid hown
      have hly : ly.length ≤ 1048576 := by omega
      clear hown
      have hbk := hb31
      have HB31 := Lib.hid (HB30.out.trans (hb31.mono HB30.out.size))
      clear hb31
      clear hbk
      have hbx : Below w31.heap.size w31 (w31.alloc (.cells #[.int .i64 sy.short, .int .i64 sy.long, .int .i64 sy.on, .int .i64 sy.off] 25)) := by (repeat (first | with_reducible exact Below.refl _ _ | with_reducible assumption | with_reducible refine Below.setCell ?_ (by simp <;> omega) _ | with_reducible refine Below.alloc ?_ (by first | omega | (simp <;> omega)) _ | with_reducible refine Below.drew ?_ | with_reducible refine below_drewN ?_ _))
      have Xby__31 := Lib.hid (Blk.new w31 25 #[.int .i64 sy.short, .int .i64 sy.long, .int .i64 sy.on, .int .i64 sy.off])
      have HBx := Lib.hid (HB31.out.trans (hbx.mono HB31.out.size))
      clear HB31
      have HB31 := HBx
      clear HBx
      have Oy_31x := Lib.hid (Oy.out.keep hbx)
      clear Oy
      obtain ⟨by_0, by_1, by_2, by_3⟩ := box4 Xby__31.out
      clear hbx
      obtain ⟨le, hle⟩ : ∃ z, (leV ly sy).1 = z := ⟨_, rfl⟩
      have Hle := Lib.hid hle
      clear hle
      obtain ⟨told, htold⟩ : ∃ z, (leV ly sy).2 = z := ⟨_, rfl⟩
      have Htold := Lib.hid htold
      clear htold
      have hf : told = true → RaL ly sy le := fun h1 => by
        have h3 := ral_facts (Htold.out.trans h1)
        rw [Hle.out] at h3
        exact h3
      have Hf := Lib.hid hf
      clear hf
      go_wp2_with fail
      refine (LeastOn_any Ay cy ly sy _ (Own.rd' encI_len Oy_31x.out) hly hcy).mono ?_
      rintro e w32 ⟨rfl, hb32⟩
      rw [Hle.out, Htold.out]
      have hbk := hb32
      have HB32 := Lib.hid (HB31.out.trans (hb32.mono HB31.out.size))
      have Oy_32 := Lib.hid (Oy_31x.out.keep hb32)
      clear hb32
      have Xby__32 := Lib.hid (Xby__31.out.after hbk)
      clear by_0 by_1 by_2 by_3
      obtain ⟨by_0, by_1, by_2, by_3⟩ := box4 Xby__32.out
      clear hbk
      go_wp2_with fail
      refine (sLeastOn_any Ay cy ly sy _ (Own.rd' encI_len Oy_32.out) hly hcy).mono ?_
      rintro e w33 ⟨rfl, hb33⟩
      rw [Hle.out, Htold.out]
      have hbk := hb33
      have HB33 := Lib.hid (HB32.out.trans (hb33.mono HB32.out.size))
      have Oy_33 := Lib.hid (Oy_32.out.keep hb33)
      clear hb33
      have Xby__33 := Lib.hid (Xby__32.out.after hbk)
      clear by_0 by_1 by_2 by_3
      obtain ⟨by_0, by_1, by_2, by_3⟩ := box4 Xby__33.out
      clear hbk
      go_upto_if 154 with (fail)
      go_cut [] (fun wx => Below w.heap.size w wx)
      case first =>
        cases told with
        | false =>
          go_wp2_with fail
          all_goals go_meet
          all_goals exact HB33.out
        | true =>
          obtain ⟨⟨f1, f2, f3, f4⟩, f5, f6, f7⟩ := Hf.out (by first | rfl | trivial)
          have Hf5 := Lib.hid f5
          have Hf6 := Lib.hid f6
          have Hf7 := Lib.hid f7
          clear f5 f6 f7
          go_wp2_with fail
          refine (OnPlaces_any Ay cy ly ⟨sy.short, sy.long, le, sy.off⟩ _ (Own.rd' encI_len Oy_33.out) hly hcy).mono ?_
          rintro e w34 ⟨Ag, cg, rfl, hcg, _, hb34⟩
          have hbk := hb34
          have HB34 := Lib.hid (HB33.out.trans (hb34.mono HB33.out.size))
          have Oy_34 := Lib.hid (Oy_33.out.keep hb34)
          clear hb34
          have Xby__34 := Lib.hid (Xby__33.out.after hbk)
          clear by_0 by_1 by_2 by_3
          obtain ⟨by_0, by_1, by_2, by_3⟩ := box4 Xby__34.out
          clear hbk
          rw [Hf5.out, Hf6.out]
          by_cases hlt : sy.off < le
          · obtain ⟨f8, f9⟩ := Hf7.out hlt
            have Hf8 := Lib.hid f8
            clear f8
            have hlt2 : le > sy.off := hlt
            go_wp2_with fail
            refine (OnPlaces_any Ay cy ly ⟨sy.short, sy.long, le - 1, sy.off⟩ _ (Own.rd' encI_len Oy_34.out) hly hcy).mono ?_
            rintro e w35 ⟨Ah, ch, rfl, hch, _, hb35⟩
            have hbk := hb35
            have HB35 := Lib.hid (HB34.out.trans (hb35.mono HB34.out.size))
            have Oy_35 := Lib.hid (Oy_34.out.keep hb35)
            clear hb35
            have Xby__35 := Lib.hid (Xby__34.out.after hbk)
            clear by_0 by_1 by_2 by_3
            obtain ⟨by_0, by_1, by_2, by_3⟩ := box4 Xby__35.out
            clear hbk
            rw [Hf8.out]
            generalize (onL ly ⟨sy.short, sy.long, le - 1, sy.off⟩).length = m9 at *
            have hm9 : ¬ (m9 : Int) = 0 := by omega
            have hm8 : ((m9 : Int) == 0) = false := by simp; omega
            go_wp2
            all_goals go_meet
            all_goals exact HB35.out
          · have hlt2 : ¬ le > sy.off := hlt
            go_wp2
            all_goals go_meet
            all_goals exact HB34.out
      case rest =>
        obtain ⟨w60, rfl⟩ : ∃ w60 : World, w60 = wc := ⟨_, rfl⟩
        have HB60 := Lib.hid hcut
        clear hcut
        clear by_0 by_1 by_2 by_3 Hle Htold Hf
        go_wp2_with fail
        refine (DrawFirstMotion_any A0 c0 l0 _ (HR0.out _ HB60.out) hl0 Hby.out).mono ?_
        rintro e w61 ⟨Az, cz, lz, sz, rfl, hllz, hcz, hown, hb61⟩
        have Oz := Lib.hid hown
        have hlz : lz.length ≤ 1048576 := by omega
        clear hown
        have hbk := hb61
        have HB61 := Lib.hid (HB60.out.trans (hb61.mono HB60.out.size))
        clear hb61
        clear hbk
        have hbx : Below w61.heap.size w61 (w61.alloc (.cells #[.int .i64 sz.short, .int .i64 sz.long, .int .i64 sz.on, .int .i64 sz.off] 25)) := by (repeat (first | with_reducible exact Below.refl _ _ | with_reducible assumption | with_reducible refine Below.setCell ?_ (by simp <;> omega) _ | with_reducible refine Below.alloc ?_ (by first | omega | (simp <;> omega)) _ | with_reducible refine Below.drew ?_ | with_reducible refine below_drewN ?_ _))
        have Xbz_61 := Lib.hid (Blk.new w61 25 #[.int .i64 sz.short, .int .i64 sz.long, .int .i64 sz.on, .int .i64 sz.off])
        have HBx := Lib.hid (HB61.out.trans (hbx.mono HB61.out.size))
        clear HB61
        have HB61 := HBx
        clear HBx
        have Oz_61x := Lib.hid (Oz.out.keep hbx)
        clear Oz
        obtain ⟨bz0, bz1, bz2, bz3⟩ := box4 Xbz_61.out
        clear hbx
        obtain ⟨fm, hfm⟩ : ∃ z, (fmV lz sz).1 = z := ⟨_, rfl⟩
        have Hfm := Lib.hid hfm
        clear hfm
        obtain ⟨fine, hfine⟩ : ∃ z, (fmV lz sz).2 = z := ⟨_, rfl⟩
        have Hfine := Lib.hid hfine
        clear hfine
        go_wp2_with fail
        refine (FirstMotion_any Az cz lz sz _ (Own.rd' encI_len Oz_61x.out) hlz hcz).mono ?_
        rintro e w62 ⟨rfl, hb62⟩
        rw [Hfm.out, Hfine.out]
        have hbk := hb62
        have HB62 := Lib.hid (HB61.out.trans (hb62.mono HB61.out.size))
        have Oz_62 := Lib.hid (Oz_61x.out.keep hb62)
        clear hb62
        have Xbz_62 := Lib.hid (Xbz_61.out.after hbk)
        clear bz0 bz1 bz2 bz3
        obtain ⟨bz0, bz1, bz2, bz3⟩ := box4 Xbz_62.out
        clear hbk
        go_wp2_with fail
        refine (sFirstMotion_any Az cz lz sz _ (Own.rd' encI_len Oz_62.out) hlz hcz).mono ?_
        rintro e w63 ⟨rfl, hb63⟩
        rw [Hfm.out, Hfine.out]
        have hbk := hb63
        have HB63 := Lib.hid (HB62.out.trans (hb63.mono HB62.out.size))
        have Oz_63 := Lib.hid (Oz_62.out.keep hb63)
        clear hb63
        have Xbz_63 := Lib.hid (Xbz_62.out.after hbk)
        clear bz0 bz1 bz2 bz3
        obtain ⟨bz0, bz1, bz2, bz3⟩ := box4 Xbz_63.out
        clear hbk
        clear bz0 bz1 bz2 bz3 Xbz_63
        go_wp2_with fail
        refine (DrawRatioAt_any A0 c0 l0 _ (HR0.out _ HB63.out) hl0 Hby.out).mono ?_
        rintro e w64 ⟨Av, cv, lv, sv, p, rfl, hllv, hcv, hown, ⟨hpp0, hpp1⟩, hb64⟩
        have Ov := Lib.hid hown
        have hlv : lv.length ≤ 1048576 := by omega
        clear hown
        have hbk := hb64
        have HB64 := Lib.hid (HB63.out.trans (hb64.mono HB63.out.size))
        clear hb64
        clear hbk
        have hbx : Below w64.heap.size w64 (w64.alloc (.cells #[.int .i64 sv.short, .int .i64 sv.long, .int .i64 sv.on, .int .i64 sv.off] 25)) := by (repeat (first | with_reducible exact Below.refl _ _ | with_reducible assumption | with_reducible refine Below.setCell ?_ (by simp <;> omega) _ | with_reducible refine Below.alloc ?_ (by first | omega | (simp <;> omega)) _ | with_reducible refine Below.drew ?_ | with_reducible refine below_drewN ?_ _))
        have Xbv_64 := Lib.hid (Blk.new w64 25 #[.int .i64 sv.short, .int .i64 sv.long, .int .i64 sv.on, .int .i64 sv.off])
        have HBx := Lib.hid (HB64.out.trans (hbx.mono HB64.out.size))
        clear HB64
        have HB64 := HBx
        clear HBx
        have Ov_64x := Lib.hid (Ov.out.keep hbx)
        clear Ov
        obtain ⟨bv0, bv1, bv2, bv3⟩ := box4 Xbv_64.out
        clear hbx
        obtain ⟨q1, hq1⟩ : ∃ z, RAn lv sv p = z := ⟨_, rfl⟩
        have Hq1 := Lib.hid hq1
        clear hq1
        obtain ⟨q2, hq2⟩ : ∃ z, RAd lv sv p = z := ⟨_, rfl⟩
        have Hq2 := Lib.hid hq2
        clear hq2
        obtain ⟨q3, hq3⟩ : ∃ z, okRA lv sv p = z := ⟨_, rfl⟩
        have Hq3 := Lib.hid hq3
        clear hq3
        go_wp2_with fail
        refine (RatioAt_any Av cv lv sv p _ (Own.rd' encI_len Ov_64x.out) hlv hcv).mono ?_
        rintro e w65 ⟨rfl, hb65⟩
        rw [Hq1.out, Hq2.out, Hq3.out]
        have hbk := hb65
        have HB65 := Lib.hid (HB64.out.trans (hb65.mono HB64.out.size))
        have Ov_65 := Lib.hid (Ov_64x.out.keep hb65)
        clear hb65
        have Xbv_65 := Lib.hid (Xbv_64.out.after hbk)
        clear bv0 bv1 bv2 bv3
        obtain ⟨bv0, bv1, bv2, bv3⟩ := box4 Xbv_65.out
        clear hbk
        go_wp2_with fail
        refine (sRatioAt_any Av cv lv sv p _ (Own.rd' encI_len Ov_65.out) hlv hcv).mono ?_
        rintro e w66 ⟨rfl, hb66⟩
        rw [Hq1.out, Hq2.out, Hq3.out]
        have hbk := hb66
        have HB66 := Lib.hid (HB65.out.trans (hb66.mono HB65.out.size))
        have Ov_66 := Lib.hid (Ov_65.out.keep hb66)
        clear hb66
        have Xbv_66 := Lib.hid (Xbv_65.out.after hbk)
        clear bv0 bv1 bv2 bv3
        obtain ⟨bv0, bv1, bv2, bv3⟩ := box4 Xbv_66.out
        clear hbk
        go_wp2
        go_ret
        exact ⟨rfl, HB66.out⟩

end Go.Proofs.Ytaemdldpcpefbaa
