/-
  Contract of the program's cubes of half the side. (Printed by gen_D10.py.)
-/
import Derived.Test.YtdadcbcanjmoeaaSplM
import Derived.Test.YtdadcbcanjmoeaaOff
import Derived.Test.YtdadcbcanjmoeaaCubeM
import Derived.BigRegion
import Derived.Deep.CutRange
import Derived.Deep.DeepCutAuto
namespace Go.Proofs.Ytdadcbcanjmoeaa
set_option linter.unusedVariables false
open Go.RowKit

theorem encC_one (e : Cube) : ∀ u ∈ encC e, u.oneCell' = true := by intro u hu; simp [encC] at hu; rcases hu with rfl | rfl | rfl | rfl | rfl <;> rfl
/-- What is left by the first statement: the empty row, half the side. -/
def LeftH (w0 : World) (h : Int) (v s : Value) (W : World) : Prop := s = .int .i64 h ∧ v = .slice (some ⟨w0.heap.size, 0, none⟩) 0 0 ∧ Own encC 5 W w0.heap.size 25 v [] ∧ Below w0.heap.size w0 W
theorem left_h (w0 W : World) (q : Nat) (h : Int) (hW : W = (w0.alloc (.cells #[] 25)).drew) (hq : q = w0.heap.size) : LeftH w0 h (.slice (some ⟨q, 0, none⟩) 0 0) (.int .i64 h) W := by
  subst hW hq
  exact ⟨rfl, rfl, (Own.empty _ _ _ (Nat.le_refl _)).keep (Below.refl _ _).drew, by (repeat (first | with_reducible exact Below.refl _ _ | with_reducible assumption | with_reducible refine Below.setCell ?_ (by simp <;> omega) _ | with_reducible refine Below.alloc ?_ (by first | omega | (simp <;> omega)) _ | with_reducible refine Below.drew ?_ | with_reducible refine below_drewN ?_ _))⟩
theorem good_bounds {b : Cube} (hg : goodC b = true) : (0 ≤ b.west ∧ b.west ≤ 999) ∧ (0 ≤ b.south ∧ b.south ≤ 999) ∧ (1 ≤ b.side ∧ b.side ≤ 512) := by
  simp only [goodC, Bool.and_eq_true] at hg
  have h1 := placeB_iff.1 (show placeB b.west b.south = true by simp_all)
  have h2 := sideB_in (show sideB b.side = true by simp_all)
  exact ⟨h1.1, h1.2, h2⟩

set_option maxRecDepth 100000 in
set_option maxHeartbeats 4000000 in
theorem split_any (b : Cube) (hg : goodC b = true) (w : World) :
    Calls Try.prog 92 #[.agg #[.int .i64 b.west, .int .i64 b.south, .int .i64 b.side, .int .i64 b.from_, .int .i64 b.to_]] w fun e w' => ∃ v, e = .returned v ∧ Own encC 5 w' w.heap.size 25 v (splK b 4) ∧ Below w.heap.size w w' := by
  obtain ⟨⟨b1, b2⟩, ⟨b3, b4⟩, b5, b6⟩ := good_bounds hg
  obtain ⟨bw, bs, bd, bf, bt⟩ := b
  simp only at b1 b2 b3 b4 b5 b6
  obtain ⟨W0, hW0⟩ : ∃ W0, W0 = w.alloc (.cells #[.int .i64 bw, .int .i64 bs, .int .i64 bd, .int .i64 bf, .int .i64 bt] 25) := ⟨_, rfl⟩
  have hB0 : Below w.heap.size w W0 := by rw [hW0]; (repeat (first | with_reducible exact Below.refl _ _ | with_reducible assumption | with_reducible refine Below.setCell ?_ (by simp <;> omega) _ | with_reducible refine Below.alloc ?_ (by first | omega | (simp <;> omega)) _ | with_reducible refine Below.drew ?_ | with_reducible refine below_drewN ?_ _))
  have HX0 : Hid (Blk W0 w.heap.size 25 #[.int .i64 bw, .int .i64 bs, .int .i64 bd, .int .i64 bf, .int .i64 bt]) := by show Blk _ _ _ _; rw [hW0]; exact Blk.new _ _ _
  have HB0 := Lib.hid hB0
  have hz0' : W0.heap.size = w.heap.size + 1 := by rw [hW0]; simp
  have Hz0 := Lib.hid hz0'
  have HW0 := Lib.hid hW0
  have hh0 : 0 ≤ bd / 2 ∧ bd / 2 ≤ 256 := by omega
  obtain ⟨i0, hi, hz0, hz1, hz2⟩ := info_parts infoC
  have hX := HX0.out
  rw [hW0] at hX
  obtain ⟨x0, x1, x2, x3, x4⟩ := box5 hX
  clear hB0 hz0' hW0 hX
  go_enter Try.func92, Try.ntmps92
  go_upto_region 1 with (fail)
  go_cut [3, 4] (fun v s W => LeftH W0 (bd / 2) v s W)
  case first =>
    go_region
    all_goals go_wp2_with fail
    all_goals go_meet
    all_goals exact left_h _ _ _ _ (by rw [HW0.out]) Hz0.out.symm
  case rest =>
    obtain ⟨rfl, rfl, hO, hB⟩ := hcut
    obtain ⟨w1, rfl⟩ : ∃ w1 : World, w1 = wc := ⟨_, rfl⟩
    obtain ⟨h, hh⟩ : ∃ h, bd / 2 = h := ⟨_, rfl⟩
    rw [hh] at hh0 ⊢
    obtain ⟨hh1, hh2⟩ := hh0
    have HO1 := Lib.hid hO
    have HB1 := Lib.hid hB
    have Hh := Lib.hid hh
    clear x0 x1 x2 x3 x4 hO hB hh
    obtain ⟨x0, x1, x2, x3, x4⟩ := box5 (HX0.out.after HB1.out)
    have hA : Below W0.heap.size w1 (w1.alloc (.cells #[.int .i64 bw, .int .i64 (bw + h)] 3)) := by have := HB1.out.size; (repeat (first | with_reducible exact Below.refl _ _ | with_reducible assumption | with_reducible refine Below.setCell ?_ (by simp <;> omega) _ | with_reducible refine Below.alloc ?_ (by first | omega | (simp <;> omega)) _ | with_reducible refine Below.drew ?_ | with_reducible refine below_drewN ?_ _))
    have hA2 : Below w1.heap.size w1 (w1.alloc (.cells #[.int .i64 bw, .int .i64 (bw + h)] 3)) := by (repeat (first | with_reducible exact Below.refl _ _ | with_reducible assumption | with_reducible refine Below.setCell ?_ (by simp <;> omega) _ | with_reducible refine Below.alloc ?_ (by first | omega | (simp <;> omega)) _ | with_reducible refine Below.drew ?_ | with_reducible refine below_drewN ?_ _))
    have HY := Lib.hid (Blk.new w1 3 #[.int .i64 bw, .int .i64 (bw + h)])
    have HO2 := Lib.hid (HO1.out.keep hA2)
    have HB2 := Lib.hid (HB1.out.trans hA)
    obtain ⟨w2, hw2⟩ : ∃ w2, w2 = w1.alloc (.cells #[.int .i64 bw, .int .i64 (bw + h)] 3) := ⟨_, rfl⟩
    have Hw2 := Lib.hid hw2
    have HOf : Hid (Off 25 w2 (w1.alloc (.cells #[.int .i64 bw, .int .i64 (bw + h)] 3))) := by show Off _ _ _; rw [hw2]; exact Off.refl _ _
    rw [← hw2] at HY
    clear hA hA2 hw2
    go_wp2
    go_loopw [3, 21] (fun v i wr => ∃ k : Nat, k ≤ 2 ∧ i = .int .i64 k ∧ Hid (Own encC 5 wr W0.heap.size 25 v (splK ⟨bw, bs, bd, bf, bt⟩ (2 * k))) ∧ Hid (Below W0.heap.size W0 wr) ∧ Hid (Off 25 w2 wr)) (fun _ i _ => 2 - (intOf i).toNat)
    case atStart => exact ⟨0, by omega, rfl, (show Own _ _ _ _ _ _ _ from by simpa [splK] using HO2.out), HB2.out, HOf.out⟩
    case round =>
      obtain ⟨k, hk, rfl, hown, hbl, hoff⟩ := hrel
      by_cases hlt : k < 2
      · have hY := hoff.out.2 _ _ _ HY.out (by decide)
        have y0 := hY.cell 0
        have y1 := hY.cell 1
        simp only [List.getElem?_toArray, List.getElem?_cons_zero, List.getElem?_cons_succ] at y0 y1
        obtain ⟨z0, z1, z2, z3, z4⟩ := box5 (HX0.out.after hbl.out)
        have hs3 := hbl.out.size
        have hA : Below W0.heap.size wr (wr.alloc (.cells #[.int .i64 bs, .int .i64 (bs + h)] 3)) := by (repeat (first | with_reducible exact Below.refl _ _ | with_reducible assumption | with_reducible refine Below.setCell ?_ (by simp <;> omega) _ | with_reducible refine Below.alloc ?_ (by first | omega | (simp <;> omega)) _ | with_reducible refine Below.drew ?_ | with_reducible refine below_drewN ?_ _))
        have hA2 : Below wr.heap.size wr (wr.alloc (.cells #[.int .i64 bs, .int .i64 (bs + h)] 3)) := by (repeat (first | with_reducible exact Below.refl _ _ | with_reducible assumption | with_reducible refine Below.setCell ?_ (by simp <;> omega) _ | with_reducible refine Below.alloc ?_ (by first | omega | (simp <;> omega)) _ | with_reducible refine Below.drew ?_ | with_reducible refine below_drewN ?_ _))
        have HV := Lib.hid (Blk.new wr 3 #[.int .i64 bs, .int .i64 (bs + h)])
        have HO3 := Lib.hid (hown.out.keep hA2)
        have HB3 := Lib.hid (hbl.out.trans hA)
        have HF3 := Lib.hid (hoff.out.trans (Off.of_below hA2))
        obtain ⟨w3, hw3⟩ : ∃ w3, w3 = wr.alloc (.cells #[.int .i64 bs, .int .i64 (bs + h)] 3) := ⟨_, rfl⟩
        have HOf3 : Hid (Off 25 w3 (wr.alloc (.cells #[.int .i64 bs, .int .i64 (bs + h)] 3))) := by show Off _ _ _; rw [hw3]; exact Off.refl _ _
        rw [← hw3] at HV HF3
        have hkc : k = 0 ∨ k = 1 := by omega
        clear hA hA2 hw3 hY hown hbl hoff
        obtain ⟨wo, rfl⟩ : ∃ wo : World, wo = wr := ⟨_, rfl⟩
        rcases hkc with rfl | rfl
        · rw [show ((0 : Nat) : Int) = 0 from rfl]
          go_wp2
          go_loopw [3, 33] (fun v i wr => ∃ j : Nat, j ≤ 2 ∧ i = .int .i64 j ∧ Hid (Own encC 5 wr W0.heap.size 25 v (splK ⟨bw, bs, bd, bf, bt⟩ (2 * 0 + j))) ∧ Hid (Below W0.heap.size W0 wr) ∧ Hid (Off 25 w3 wr)) (fun _ i _ => 2 - (intOf i).toNat)
          case atStart => exact ⟨0, by omega, rfl, HO3.out, HB3.out, HOf3.out⟩
          case round =>
            obtain ⟨j, hj, rfl, hown, hbl, hoff⟩ := hrel
            by_cases hjt : j < 2
            · have hV := hoff.out.2 _ _ _ HV.out (by decide)
              have u0 := hV.cell 0
              have u1 := hV.cell 1
              simp only [List.getElem?_toArray, List.getElem?_cons_zero, List.getElem?_cons_succ] at u0 u1
              clear z0 z1 z2 z3 z4
              obtain ⟨z0, z1, z2, z3, z4⟩ := box5 (HX0.out.after hbl.out)
              have hs4 := hbl.out.size
              have hjc : j = 0 ∨ j = 1 := by omega
              obtain ⟨A9, c9, rfl, _, _⟩ := Own.form encC_len hown.out
              clear hV
              rcases hjc with rfl | rfl
              · have hsu := splK_succ (⟨bw, bs, bd, bf, bt⟩ : Cube) 0 (by rw [candC_len]; omega)
                have hcd : (candC (⟨bw, bs, bd, bf, bt⟩ : Cube))[0]'(by rw [candC_len]; omega) = ⟨bw, bs, h, bf, bt⟩ := by simp [candC, Hh.out]
                rw [hcd] at hsu
                have hll := splK_len (⟨bw, bs, bd, bf, bt⟩ : Cube) 0
                have hpl : plC ⟨bw, bs, h, bf, bt⟩ = placeB (bw) (bs) := rfl
                rw [hpl] at hsu
                obtain ⟨L, hL⟩ : ∃ L, splK (⟨bw, bs, bd, bf, bt⟩ : Cube) (2 * 0 + 0) = L := ⟨_, rfl⟩
                have hL2 : splK (⟨bw, bs, bd, bf, bt⟩ : Cube) 0 = L := hL
                rw [hL2] at hsu hll
                rw [hL] at hown ⊢
                cases hp : placeB (bw) (bs) with
                | false =>
                  rw [hp, if_neg (by simp), List.append_nil] at hsu
                  have Hsu := Lib.hid hsu
                  clear hsu hcd hpl hL hL2
                  go_wp2_with fail
                  refine (isPlace_any _ _ _).mono ?_
                  rintro e w' ⟨rfl, rfl⟩
                  rw [hp]
                  go_wp2
                  go_roundw
                  case rel => exact ⟨0 + 1, by omega, by first | rfl | go_num, (show Own _ _ _ _ _ _ _ from by rw [show 2 * 0 + (0 + 1) = 0 + 1 from rfl, Hsu.out]; exact hown.out), hbl.out, hoff.out⟩
                  case measure => simp [intOf]
                | true =>
                  rw [hp, if_pos rfl] at hsu
                  have Hsu := Lib.hid hsu
                  have Hown := Lib.hid hown.out
                  clear hsu hcd hpl hL hL2 hown
                  go_wp2_with fail
                  refine (isPlace_any _ _ _).mono ?_
                  rintro e w' ⟨rfl, rfl⟩
                  rw [hp]
                  go_wp2_with (at_builtin; refine wpList_app1 rfl _ _ 67 rfl W0.heap.size 25 i0 _ 5 40 Try.underlying67 hi hz0 hz1 hz2 rfl (by omega) (by omega) encC encC_len encC_one (.slice A9 L.length c9) L ⟨bw, bs, h, bf, bt⟩ wr _ rfl _ rfl Hown.out rfl (by omega) hs4 ?_; intro v9 w9 hown9 hb9 hg9)
                  have HO9 := Lib.hid hown9
                  have HB9 := Lib.hid (hbl.out.trans hb9)
                  have HF9 := Lib.hid (hoff.out.trans (Off.of_grown Hown.out hg9))
                  clear hown9 hb9 hg9
                  go_wp2
                  go_roundw
                  case rel => exact ⟨0 + 1, by omega, by first | rfl | go_num, (show Own _ _ _ _ _ _ _ from by rw [show 2 * 0 + (0 + 1) = 0 + 1 from rfl, Hsu.out]; exact HO9.out), HB9.out, HF9.out⟩
                  case measure => simp [intOf]
              · have hsu := splK_succ (⟨bw, bs, bd, bf, bt⟩ : Cube) 1 (by rw [candC_len]; omega)
                have hcd : (candC (⟨bw, bs, bd, bf, bt⟩ : Cube))[1]'(by rw [candC_len]; omega) = ⟨bw, bs + h, h, bf, bt⟩ := by simp [candC, Hh.out]
                rw [hcd] at hsu
                have hll := splK_len (⟨bw, bs, bd, bf, bt⟩ : Cube) 1
                have hpl : plC ⟨bw, bs + h, h, bf, bt⟩ = placeB (bw) (bs + h) := rfl
                rw [hpl] at hsu
                obtain ⟨L, hL⟩ : ∃ L, splK (⟨bw, bs, bd, bf, bt⟩ : Cube) (2 * 0 + 1) = L := ⟨_, rfl⟩
                have hL2 : splK (⟨bw, bs, bd, bf, bt⟩ : Cube) 1 = L := hL
                rw [hL2] at hsu hll
                rw [hL] at hown ⊢
                cases hp : placeB (bw) (bs + h) with
                | false =>
                  rw [hp, if_neg (by simp), List.append_nil] at hsu
                  have Hsu := Lib.hid hsu
                  clear hsu hcd hpl hL hL2
                  go_wp2_with fail
                  refine (isPlace_any _ _ _).mono ?_
                  rintro e w' ⟨rfl, rfl⟩
                  rw [hp]
                  go_wp2
                  go_roundw
                  case rel => exact ⟨1 + 1, by omega, by first | rfl | go_num, (show Own _ _ _ _ _ _ _ from by rw [show 2 * 0 + (1 + 1) = 1 + 1 from rfl, Hsu.out]; exact hown.out), hbl.out, hoff.out⟩
                  case measure => simp [intOf]
                | true =>
                  rw [hp, if_pos rfl] at hsu
                  have Hsu := Lib.hid hsu
                  have Hown := Lib.hid hown.out
                  clear hsu hcd hpl hL hL2 hown
                  go_wp2_with fail
                  refine (isPlace_any _ _ _).mono ?_
                  rintro e w' ⟨rfl, rfl⟩
                  rw [hp]
                  go_wp2_with (at_builtin; refine wpList_app1 rfl _ _ 67 rfl W0.heap.size 25 i0 _ 5 40 Try.underlying67 hi hz0 hz1 hz2 rfl (by omega) (by omega) encC encC_len encC_one (.slice A9 L.length c9) L ⟨bw, bs + h, h, bf, bt⟩ wr _ rfl _ rfl Hown.out rfl (by omega) hs4 ?_; intro v9 w9 hown9 hb9 hg9)
                  have HO9 := Lib.hid hown9
                  have HB9 := Lib.hid (hbl.out.trans hb9)
                  have HF9 := Lib.hid (hoff.out.trans (Off.of_grown Hown.out hg9))
                  clear hown9 hb9 hg9
                  go_wp2
                  go_roundw
                  case rel => exact ⟨1 + 1, by omega, by first | rfl | go_num, (show Own _ _ _ _ _ _ _ from by rw [show 2 * 0 + (1 + 1) = 1 + 1 from rfl, Hsu.out]; exact HO9.out), HB9.out, HF9.out⟩
                  case measure => simp [intOf]
            · have hj2 : j = 2 := by omega
              subst hj2
              have HFz := Lib.hid (HF3.out.trans hoff.out)
              go_wp2
              go_roundw
              case rel => exact ⟨0 + 1, by omega, by first | rfl | go_num, hown.out, hbl.out, HFz.out⟩
              case measure => simp [intOf]
        · rw [show ((1 : Nat) : Int) = 1 from rfl]
          go_wp2
          go_loopw [3, 33] (fun v i wr => ∃ j : Nat, j ≤ 2 ∧ i = .int .i64 j ∧ Hid (Own encC 5 wr W0.heap.size 25 v (splK ⟨bw, bs, bd, bf, bt⟩ (2 * 1 + j))) ∧ Hid (Below W0.heap.size W0 wr) ∧ Hid (Off 25 w3 wr)) (fun _ i _ => 2 - (intOf i).toNat)
          case atStart => exact ⟨0, by omega, rfl, HO3.out, HB3.out, HOf3.out⟩
          case round =>
            obtain ⟨j, hj, rfl, hown, hbl, hoff⟩ := hrel
            by_cases hjt : j < 2
            · have hV := hoff.out.2 _ _ _ HV.out (by decide)
              have u0 := hV.cell 0
              have u1 := hV.cell 1
              simp only [List.getElem?_toArray, List.getElem?_cons_zero, List.getElem?_cons_succ] at u0 u1
              clear z0 z1 z2 z3 z4
              obtain ⟨z0, z1, z2, z3, z4⟩ := box5 (HX0.out.after hbl.out)
              have hs4 := hbl.out.size
              have hjc : j = 0 ∨ j = 1 := by omega
              obtain ⟨A9, c9, rfl, _, _⟩ := Own.form encC_len hown.out
              clear hV
              rcases hjc with rfl | rfl
              · have hsu := splK_succ (⟨bw, bs, bd, bf, bt⟩ : Cube) 2 (by rw [candC_len]; omega)
                have hcd : (candC (⟨bw, bs, bd, bf, bt⟩ : Cube))[2]'(by rw [candC_len]; omega) = ⟨bw + h, bs, h, bf, bt⟩ := by simp [candC, Hh.out]
                rw [hcd] at hsu
                have hll := splK_len (⟨bw, bs, bd, bf, bt⟩ : Cube) 2
                have hpl : plC ⟨bw + h, bs, h, bf, bt⟩ = placeB (bw + h) (bs) := rfl
                rw [hpl] at hsu
                obtain ⟨L, hL⟩ : ∃ L, splK (⟨bw, bs, bd, bf, bt⟩ : Cube) (2 * 1 + 0) = L := ⟨_, rfl⟩
                have hL2 : splK (⟨bw, bs, bd, bf, bt⟩ : Cube) 2 = L := hL
                rw [hL2] at hsu hll
                rw [hL] at hown ⊢
                cases hp : placeB (bw + h) (bs) with
                | false =>
                  rw [hp, if_neg (by simp), List.append_nil] at hsu
                  have Hsu := Lib.hid hsu
                  clear hsu hcd hpl hL hL2
                  go_wp2_with fail
                  refine (isPlace_any _ _ _).mono ?_
                  rintro e w' ⟨rfl, rfl⟩
                  rw [hp]
                  go_wp2
                  go_roundw
                  case rel => exact ⟨0 + 1, by omega, by first | rfl | go_num, (show Own _ _ _ _ _ _ _ from by rw [show 2 * 1 + (0 + 1) = 2 + 1 from rfl, Hsu.out]; exact hown.out), hbl.out, hoff.out⟩
                  case measure => simp [intOf]
                | true =>
                  rw [hp, if_pos rfl] at hsu
                  have Hsu := Lib.hid hsu
                  have Hown := Lib.hid hown.out
                  clear hsu hcd hpl hL hL2 hown
                  go_wp2_with fail
                  refine (isPlace_any _ _ _).mono ?_
                  rintro e w' ⟨rfl, rfl⟩
                  rw [hp]
                  go_wp2_with (at_builtin; refine wpList_app1 rfl _ _ 67 rfl W0.heap.size 25 i0 _ 5 40 Try.underlying67 hi hz0 hz1 hz2 rfl (by omega) (by omega) encC encC_len encC_one (.slice A9 L.length c9) L ⟨bw + h, bs, h, bf, bt⟩ wr _ rfl _ rfl Hown.out rfl (by omega) hs4 ?_; intro v9 w9 hown9 hb9 hg9)
                  have HO9 := Lib.hid hown9
                  have HB9 := Lib.hid (hbl.out.trans hb9)
                  have HF9 := Lib.hid (hoff.out.trans (Off.of_grown Hown.out hg9))
                  clear hown9 hb9 hg9
                  go_wp2
                  go_roundw
                  case rel => exact ⟨0 + 1, by omega, by first | rfl | go_num, (show Own _ _ _ _ _ _ _ from by rw [show 2 * 1 + (0 + 1) = 2 + 1 from rfl, Hsu.out]; exact HO9.out), HB9.out, HF9.out⟩
                  case measure => simp [intOf]
              · have hsu := splK_succ (⟨bw, bs, bd, bf, bt⟩ : Cube) 3 (by rw [candC_len]; omega)
                have hcd : (candC (⟨bw, bs, bd, bf, bt⟩ : Cube))[3]'(by rw [candC_len]; omega) = ⟨bw + h, bs + h, h, bf, bt⟩ := by simp [candC, Hh.out]
                rw [hcd] at hsu
                have hll := splK_len (⟨bw, bs, bd, bf, bt⟩ : Cube) 3
                have hpl : plC ⟨bw + h, bs + h, h, bf, bt⟩ = placeB (bw + h) (bs + h) := rfl
                rw [hpl] at hsu
                obtain ⟨L, hL⟩ : ∃ L, splK (⟨bw, bs, bd, bf, bt⟩ : Cube) (2 * 1 + 1) = L := ⟨_, rfl⟩
                have hL2 : splK (⟨bw, bs, bd, bf, bt⟩ : Cube) 3 = L := hL
                rw [hL2] at hsu hll
                rw [hL] at hown ⊢
                cases hp : placeB (bw + h) (bs + h) with
                | false =>
                  rw [hp, if_neg (by simp), List.append_nil] at hsu
                  have Hsu := Lib.hid hsu
                  clear hsu hcd hpl hL hL2
                  go_wp2_with fail
                  refine (isPlace_any _ _ _).mono ?_
                  rintro e w' ⟨rfl, rfl⟩
                  rw [hp]
                  go_wp2
                  go_roundw
                  case rel => exact ⟨1 + 1, by omega, by first | rfl | go_num, (show Own _ _ _ _ _ _ _ from by rw [show 2 * 1 + (1 + 1) = 3 + 1 from rfl, Hsu.out]; exact hown.out), hbl.out, hoff.out⟩
                  case measure => simp [intOf]
                | true =>
                  rw [hp, if_pos rfl] at hsu
                  have Hsu := Lib.hid hsu
                  have Hown := Lib.hid hown.out
                  clear hsu hcd hpl hL hL2 hown
                  go_wp2_with fail
                  refine (isPlace_any _ _ _).mono ?_
                  rintro e w' ⟨rfl, rfl⟩
                  rw [hp]
                  go_wp2_with (at_builtin; refine wpList_app1 rfl _ _ 67 rfl W0.heap.size 25 i0 _ 5 40 Try.underlying67 hi hz0 hz1 hz2 rfl (by omega) (by omega) encC encC_len encC_one (.slice A9 L.length c9) L ⟨bw + h, bs + h, h, bf, bt⟩ wr _ rfl _ rfl Hown.out rfl (by omega) hs4 ?_; intro v9 w9 hown9 hb9 hg9)
                  have HO9 := Lib.hid hown9
                  have HB9 := Lib.hid (hbl.out.trans hb9)
                  have HF9 := Lib.hid (hoff.out.trans (Off.of_grown Hown.out hg9))
                  clear hown9 hb9 hg9
                  go_wp2
                  go_roundw
                  case rel => exact ⟨1 + 1, by omega, by first | rfl | go_num, (show Own _ _ _ _ _ _ _ from by rw [show 2 * 1 + (1 + 1) = 3 + 1 from rfl, Hsu.out]; exact HO9.out), HB9.out, HF9.out⟩
                  case measure => simp [intOf]
            · have hj2 : j = 2 := by omega
              subst hj2
              have HFz := Lib.hid (HF3.out.trans hoff.out)
              go_wp2
              go_roundw
              case rel => exact ⟨1 + 1, by omega, by first | rfl | go_num, hown.out, hbl.out, HFz.out⟩
              case measure => simp [intOf]
      · have hk2 : k = 2 := by omega
        subst hk2
        have HOz := Lib.hid (hown.out.mono (show w.heap.size ≤ W0.heap.size by have := Hz0.out; omega))
        have HBz := Lib.hid (HB0.out.trans (hbl.out.mono HB0.out.size))
        clear hown hbl hoff
        go_wp2
        go_ret
        exact ⟨_, rfl, HOz.out, HBz.out⟩

set_option maxRecDepth 100000 in
set_option maxHeartbeats 1000000 in
theorem SplitCube_any (b : Cube) (w : World) :
    Calls Try.prog 50 #[.agg #[.int .i64 b.west, .int .i64 b.south, .int .i64 b.side, .int .i64 b.from_, .int .i64 b.to_]] w fun e w' => ∃ A' c', e = .returned (.tuple #[.slice A' (spL b).length c', .bool (okSp b)]) ∧ ((spL b).length ≤ c' ∧ c' ≤ maxLen) ∧ Own encC 5 w' w.heap.size 25 (.slice A' (spL b).length c') (spL b) ∧ Below w.heap.size w w' := by
  unfold spL
  have hB0 : Below w.heap.size w (w.alloc (.cells #[.int .i64 b.west, .int .i64 b.south, .int .i64 b.side, .int .i64 b.from_, .int .i64 b.to_] 25)) := by (repeat (first | with_reducible exact Below.refl _ _ | with_reducible assumption | with_reducible refine Below.setCell ?_ (by simp <;> omega) _ | with_reducible refine Below.alloc ?_ (by first | omega | (simp <;> omega)) _ | with_reducible refine Below.drew ?_ | with_reducible refine below_drewN ?_ _))
  have HX := Lib.hid (Blk.new w 25 #[.int .i64 b.west, .int .i64 b.south, .int .i64 b.side, .int .i64 b.from_, .int .i64 b.to_])
  obtain ⟨x0, x1, x2, x3, x4⟩ := box5 HX.out
  cases hg : goodC b with
  | false =>
    have hk : okSp b = false := by simp [okSp, hg]
    simp only [hk, Bool.false_eq_true, if_false, List.length_nil]
    clear hk
    go_enter Try.func50, Try.ntmps50
    go_wp2_with fail
    refine (IsCube_any b _).mono ?_
    rintro e w1 ⟨rfl, hb1⟩
    rw [hg]
    have hB1 := hB0.trans (hb1.mono hB0.size)
    go_wp2
    go_ret2
    exact ⟨none, 0, rfl, ⟨Nat.le_refl _, Nat.zero_le _⟩, Own.none_ _ _ _, hB1⟩
  | true =>
    by_cases h1 : b.side = 1
    · have hk : okSp b = false := by simp [okSp, h1]
      simp only [hk, Bool.false_eq_true, if_false, List.length_nil]
      clear hk
      have hd : (b.side == 1) = true := by simp [h1]
      have H1 := Lib.hid h1
      clear h1
      go_enter Try.func50, Try.ntmps50
      go_wp2_with fail
      refine (IsCube_any b _).mono ?_
      rintro e w1 ⟨rfl, hb1⟩
      rw [hg]
      have hB1 := hB0.trans (hb1.mono hB0.size)
      obtain ⟨y0, y1, y2, y3, y4⟩ := box5 (HX.out.after hb1)
      go_wp2
      go_ret2
      exact ⟨none, 0, rfl, ⟨Nat.le_refl _, Nat.zero_le _⟩, Own.none_ _ _ _, hB1⟩
    · have hk : okSp b = true := by simp [okSp, hg, h1]
      simp only [hk, if_true]
      clear hk
      have hd : (b.side == 1) = false := by simp [h1]
      have Hc := Lib.hid (fun W => split_any b hg W)
      have hg2 := hg
      clear h1
      go_enter Try.func50, Try.ntmps50
      go_wp2_with fail
      refine (IsCube_any b _).mono ?_
      rintro e w1 ⟨rfl, hb1⟩
      rw [hg]
      have hB1 := hB0.trans (hb1.mono hB0.size)
      obtain ⟨y0, y1, y2, y3, y4⟩ := box5 (HX.out.after hb1)
      go_wp2_with fail
      refine (Hc.out _).mono ?_
      rintro e w2 ⟨v, rfl, hown, hb2⟩
      obtain ⟨A9, c9, rfl, hcc, _⟩ := Own.form encC_len hown
      have HO := Lib.hid (hown.mono hB1.size)
      have hB2 := hB1.trans (hb2.mono hB1.size)
      clear hown hb2
      go_wp2
      go_ret2
      exact ⟨_, _, rfl, hcc, HO.out, hB2⟩

end Go.Proofs.Ytdadcbcanjmoeaa
