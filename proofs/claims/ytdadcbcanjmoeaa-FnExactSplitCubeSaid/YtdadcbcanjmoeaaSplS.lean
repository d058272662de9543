/-
  Contract of the reference's cubes of half the side. (Printed by gen_D10.py.)
-/
import Derived.Test.YtdadcbcanjmoeaaSplI
namespace Go.Proofs.Ytdadcbcanjmoeaa
set_option linter.unusedVariables false
open Go.RowKit

set_option maxRecDepth 100000 in
set_option maxHeartbeats 4000000 in
theorem l12Split_any (b : Cube) (hg : goodC b = true) (h1 : b.side ≠ 1) (w : World) :
    Calls Try.prog 91 #[.agg #[.int .i64 b.west, .int .i64 b.south, .int .i64 b.side, .int .i64 b.from_, .int .i64 b.to_]] w fun e w' => ∃ v, e = .returned v ∧ Own encC 5 w' w.heap.size 25 v (splK b 4) ∧ Below w.heap.size w w' := by
  have hhalf := fun c hc => half_good hg h1 (c := c) hc
  have Hhalf := Lib.hid hhalf
  clear hhalf h1
  obtain ⟨⟨b1, b2⟩, ⟨b3, b4⟩, b5, b6⟩ := good_bounds hg
  obtain ⟨bw, bs, bd, bf, bt⟩ := b
  simp only at b1 b2 b3 b4 b5 b6
  obtain ⟨W0, hW0⟩ : ∃ W0, W0 = w.alloc (.cells #[.int .i64 bw, .int .i64 bs, .int .i64 bd, .int .i64 bf, .int .i64 bt] 25) := ⟨_, rfl⟩
  have hB0 : Below w.heap.size w W0 := by rw [hW0]; (repeat (first | with_reducible exact Below.refl _ _ | with_reducible assumption | with_reducible refine Below.setCell ?_ (by simp <;> omega) _ | with_reducible refine Below.alloc ?_ (by first | omega | (simp <;> omega)) _ | with_reducible refine Below.drew ?_ | with_reducible refine below_drewN ?_ _))
  have HX0 : Hid (Blk W0 w.heap.size 25 #[.int .i64 bw, .int .i64 bs, .int .i64 bd, .int .i64 bf, .int .i64 bt]) := by show Blk _ _ _ _; rw [hW0]; exact Blk.new _ _ _
  have HB0 := Lib.hid hB0
  have hz0' : W0.heap.size = w.heap.size + 1 := by rw [hW0]; simp
  have Hz0 := Lib.hid hz0'
  have HW0 := Lib.hid hW0
  have hh0 : 0 ≤ bd / 2 ∧ bd / 2 ≤ 256 := by omega
  obtain ⟨i0, hi, hz0, hz1, hz2⟩ := info_parts infoC
  have hX := HX0.out
  rw [hW0] at hX
  obtain ⟨x0, x1, x2, x3, x4⟩ := box5 hX
  clear hB0 hz0' hW0 hX
  go_enter Try.func91, Try.ntmps91
  go_upto_region 1 with (fail)
  go_cut [3, 4] (fun v s W => LeftH W0 (bd / 2) v s W)
  case first =>
    go_region
    all_goals go_wp2_with fail
    all_goals go_meet
    all_goals exact left_h _ _ _ _ (by rw [HW0.out]) Hz0.out.symm
  case rest =>
    obtain ⟨rfl, rfl, hO, hB⟩ := hcut
    obtain ⟨w1, rfl⟩ : ∃ w1 : World, w1 = wc := ⟨_, rfl⟩
    obtain ⟨h, hh⟩ : ∃ h, bd / 2 = h := ⟨_, rfl⟩
    rw [hh] at hh0 ⊢
    obtain ⟨hh1, hh2⟩ := hh0
    have HO1 := Lib.hid hO
    have HB1 := Lib.hid hB
    have Hh := Lib.hid hh
    clear x0 x1 x2 x3 x4 hO hB hh
    go_wp2
    go_loopw [3, 5] (fun v i wr => ∃ k : Nat, k ≤ 4 ∧ i = .int .i64 k ∧ Hid (Own encC 5 wr W0.heap.size 25 v (splK ⟨bw, bs, bd, bf, bt⟩ k)) ∧ Hid (Below W0.heap.size W0 wr)) (fun _ i _ => 4 - (intOf i).toNat)
    case atStart => exact ⟨0, by omega, rfl, (show Own _ _ _ _ _ _ _ from by simpa [splK] using HO1.out), HB1.out⟩
    case round =>
      obtain ⟨k, hk, rfl, hown, hbl⟩ := hrel
      by_cases hlt : k < 4
      · obtain ⟨z0, z1, z2, z3, z4⟩ := box5 (HX0.out.after hbl.out)
        have hs4 := hbl.out.size
        obtain ⟨A9, c9, rfl, _, _⟩ := Own.form encC_len hown.out
        have hkc : k = 0 ∨ k = 1 ∨ k = 2 ∨ k = 3 := by omega
        rcases hkc with rfl | rfl | rfl | rfl
        · have hsu := splK_succ (⟨bw, bs, bd, bf, bt⟩ : Cube) 0 (by rw [candC_len]; omega)
          have hcd : (candC (⟨bw, bs, bd, bf, bt⟩ : Cube))[0]'(by rw [candC_len]; omega) = ⟨bw, bs, h, bf, bt⟩ := by simp [candC, Hh.out]
          have hgd : goodC ⟨bw, bs, h, bf, bt⟩ = plC ⟨bw, bs, h, bf, bt⟩ := Hhalf.out _ (by rw [← hcd]; exact List.getElem_mem _)
          rw [hcd, ← hgd] at hsu
          have hll := splK_len (⟨bw, bs, bd, bf, bt⟩ : Cube) 0
          obtain ⟨L, hL⟩ : ∃ L, splK (⟨bw, bs, bd, bf, bt⟩ : Cube) 0 = L := ⟨_, rfl⟩
          rw [hL] at hsu hll hown ⊢
          have hbY : Below wr.heap.size wr (wr.alloc (.cells #[.int .i64 bw, .int .i64 bs, .int .i64 h, .int .i64 bf, .int .i64 bt] 25)) := by (repeat (first | with_reducible exact Below.refl _ _ | with_reducible assumption | with_reducible refine Below.setCell ?_ (by simp <;> omega) _ | with_reducible refine Below.alloc ?_ (by first | omega | (simp <;> omega)) _ | with_reducible refine Below.drew ?_ | with_reducible refine below_drewN ?_ _))
          have HbY := Lib.hid (hbl.out.trans (hbY.mono hs4))
          have HOY := Lib.hid (hown.out.keep hbY)
          have HYB := Lib.hid (Blk.new wr 25 #[.int .i64 bw, .int .i64 bs, .int .i64 h, .int .i64 bf, .int .i64 bt])
          clear hcd hgd hL hown hbY
          cases hp : goodC ⟨bw, bs, h, bf, bt⟩ with
          | false =>
            rw [hp, if_neg (by simp), List.append_nil] at hsu
            have Hsu := Lib.hid hsu
            clear hsu
            go_wp2_with fail
            refine (l12Good_any ⟨bw, bs, h, bf, bt⟩ _).mono ?_
            rintro e w5 ⟨rfl, hb5⟩
            rw [hp]
            have HO5 := Lib.hid (HOY.out.keep hb5)
            have HB5 := Lib.hid (HbY.out.trans (hb5.mono HbY.out.size))
            clear hb5
            go_wp2
            go_roundw
            case rel => exact ⟨0 + 1, by omega, by first | rfl | go_num, (show Own _ _ _ _ _ _ _ from by rw [Hsu.out]; exact HO5.out), HB5.out⟩
            case measure => simp [intOf]
          | true =>
            rw [hp, if_pos rfl] at hsu
            have Hsu := Lib.hid hsu
            clear hsu
            go_wp2_with fail
            refine (l12Good_any ⟨bw, bs, h, bf, bt⟩ _).mono ?_
            rintro e w5 ⟨rfl, hb5⟩
            rw [hp]
            have HO5 := Lib.hid (HOY.out.keep hb5)
            have HB5 := Lib.hid (HbY.out.trans (hb5.mono HbY.out.size))
            obtain ⟨y0, y1, y2, y3, y4⟩ := box5 (HYB.out.after hb5)
            have hs5 := HB5.out.size
            clear hb5
            go_wp2_with (at_builtin; refine wpList_app1 rfl _ _ 67 rfl W0.heap.size 25 i0 _ 5 40 Try.underlying67 hi hz0 hz1 hz2 rfl (by omega) (by omega) encC encC_len encC_one (.slice A9 L.length c9) L ⟨bw, bs, h, bf, bt⟩ w5 _ rfl _ rfl HO5.out rfl (by omega) hs5 ?_; intro v9 w9 hown9 hb9 _)
            have HO9 := Lib.hid hown9
            have HB9 := Lib.hid (HB5.out.trans hb9)
            clear hown9 hb9
            go_wp2
            go_roundw
            case rel => exact ⟨0 + 1, by omega, by first | rfl | go_num, (show Own _ _ _ _ _ _ _ from by rw [Hsu.out]; exact HO9.out), HB9.out⟩
            case measure => simp [intOf]
        · have hsu := splK_succ (⟨bw, bs, bd, bf, bt⟩ : Cube) 1 (by rw [candC_len]; omega)
          have hcd : (candC (⟨bw, bs, bd, bf, bt⟩ : Cube))[1]'(by rw [candC_len]; omega) = ⟨bw, bs + h, h, bf, bt⟩ := by simp [candC, Hh.out]
          have hgd : goodC ⟨bw, bs + h, h, bf, bt⟩ = plC ⟨bw, bs + h, h, bf, bt⟩ := Hhalf.out _ (by rw [← hcd]; exact List.getElem_mem _)
          rw [hcd, ← hgd] at hsu
          have hll := splK_len (⟨bw, bs, bd, bf, bt⟩ : Cube) 1
          obtain ⟨L, hL⟩ : ∃ L, splK (⟨bw, bs, bd, bf, bt⟩ : Cube) 1 = L := ⟨_, rfl⟩
          rw [hL] at hsu hll hown ⊢
          have hbY : Below wr.heap.size wr (wr.alloc (.cells #[.int .i64 bw, .int .i64 (bs + h), .int .i64 h, .int .i64 bf, .int .i64 bt] 25)) := by (repeat (first | with_reducible exact Below.refl _ _ | with_reducible assumption | with_reducible refine Below.setCell ?_ (by simp <;> omega) _ | with_reducible refine Below.alloc ?_ (by first | omega | (simp <;> omega)) _ | with_reducible refine Below.drew ?_ | with_reducible refine below_drewN ?_ _))
          have HbY := Lib.hid (hbl.out.trans (hbY.mono hs4))
          have HOY := Lib.hid (hown.out.keep hbY)
          have HYB := Lib.hid (Blk.new wr 25 #[.int .i64 bw, .int .i64 (bs + h), .int .i64 h, .int .i64 bf, .int .i64 bt])
          clear hcd hgd hL hown hbY
          cases hp : goodC ⟨bw, bs + h, h, bf, bt⟩ with
          | false =>
            rw [hp, if_neg (by simp), List.append_nil] at hsu
            have Hsu := Lib.hid hsu
            clear hsu
            go_wp2_with fail
            refine (l12Good_any ⟨bw, bs + h, h, bf, bt⟩ _).mono ?_
            rintro e w5 ⟨rfl, hb5⟩
            rw [hp]
            have HO5 := Lib.hid (HOY.out.keep hb5)
            have HB5 := Lib.hid (HbY.out.trans (hb5.mono HbY.out.size))
            clear hb5
            go_wp2
            go_roundw
            case rel => exact ⟨1 + 1, by omega, by first | rfl | go_num, (show Own _ _ _ _ _ _ _ from by rw [Hsu.out]; exact HO5.out), HB5.out⟩
            case measure => simp [intOf]
          | true =>
            rw [hp, if_pos rfl] at hsu
            have Hsu := Lib.hid hsu
            clear hsu
            go_wp2_with fail
            refine (l12Good_any ⟨bw, bs + h, h, bf, bt⟩ _).mono ?_
            rintro e w5 ⟨rfl, hb5⟩
            rw [hp]
            have HO5 := Lib.hid (HOY.out.keep hb5)
            have HB5 := Lib.hid (HbY.out.trans (hb5.mono HbY.out.size))
            obtain ⟨y0, y1, y2, y3, y4⟩ := box5 (HYB.out.after hb5)
            have hs5 := HB5.out.size
            clear hb5
            go_wp2_with (at_builtin; refine wpList_app1 rfl _ _ 67 rfl W0.heap.size 25 i0 _ 5 40 Try.underlying67 hi hz0 hz1 hz2 rfl (by omega) (by omega) encC encC_len encC_one (.slice A9 L.length c9) L ⟨bw, bs + h, h, bf, bt⟩ w5 _ rfl _ rfl HO5.out rfl (by omega) hs5 ?_; intro v9 w9 hown9 hb9 _)
            have HO9 := Lib.hid hown9
            have HB9 := Lib.hid (HB5.out.trans hb9)
            clear hown9 hb9
            go_wp2
            go_roundw
            case rel => exact ⟨1 + 1, by omega, by first | rfl | go_num, (show Own _ _ _ _ _ _ _ from by rw [Hsu.out]; exact HO9.out), HB9.out⟩
            case measure => simp [intOf]
        · have hsu := splK_succ (⟨bw, bs, bd, bf, bt⟩ : Cube) 2 (by rw [candC_len]; omega)
          have hcd : (candC (⟨bw, bs, bd, bf, bt⟩ : Cube))[2]'(by rw [candC_len]; omega) = ⟨bw + h, bs, h, bf, bt⟩ := by simp [candC, Hh.out]
          have hgd : goodC ⟨bw + h, bs, h, bf, bt⟩ = plC ⟨bw + h, bs, h, bf, bt⟩ := Hhalf.out _ (by rw [← hcd]; exact List.getElem_mem _)
          rw [hcd, ← hgd] at hsu
          have hll := splK_len (⟨bw, bs, bd, bf, bt⟩ : Cube) 2
          obtain ⟨L, hL⟩ : ∃ L, splK (⟨bw, bs, bd, bf, bt⟩ : Cube) 2 = L := ⟨_, rfl⟩
          rw [hL] at hsu hll hown ⊢
          have hbY : Below wr.heap.size wr (wr.alloc (.cells #[.int .i64 (bw + h), .int .i64 bs, .int .i64 h, .int .i64 bf, .int .i64 bt] 25)) := by (repeat (first | with_reducible exact Below.refl _ _ | with_reducible assumption | with_reducible refine Below.setCell ?_ (by simp <;> omega) _ | with_reducible refine Below.alloc ?_ (by first | omega | (simp <;> omega)) _ | with_reducible refine Below.drew ?_ | with_reducible refine below_drewN ?_ _))
          have HbY := Lib.hid (hbl.out.trans (hbY.mono hs4))
          have HOY := Lib.hid (hown.out.keep hbY)
          have HYB := Lib.hid (Blk.new wr 25 #[.int .i64 (bw + h), .int .i64 bs, .int .i64 h, .int .i64 bf, .int .i64 bt])
          clear hcd hgd hL hown hbY
          cases hp : goodC ⟨bw + h, bs, h, bf, bt⟩ with
          | false =>
            rw [hp, if_neg (by simp), List.append_nil] at hsu
            have Hsu := Lib.hid hsu
            clear hsu
            go_wp2_with fail
            refine (l12Good_any ⟨bw + h, bs, h, bf, bt⟩ _).mono ?_
            rintro e w5 ⟨rfl, hb5⟩
            rw [hp]
            have HO5 := Lib.hid (HOY.out.keep hb5)
            have HB5 := Lib.hid (HbY.out.trans (hb5.mono HbY.out.size))
            clear hb5
            go_wp2
            go_roundw
            case rel => exact ⟨2 + 1, by omega, by first | rfl | go_num, (show Own _ _ _ _ _ _ _ from by rw [Hsu.out]; exact HO5.out), HB5.out⟩
            case measure => simp [intOf]
          | true =>
            rw [hp, if_pos rfl] at hsu
            have Hsu := Lib.hid hsu
            clear hsu
            go_wp2_with fail
            refine (l12Good_any ⟨bw + h, bs, h, bf, bt⟩ _).mono ?_
            rintro e w5 ⟨rfl, hb5⟩
            rw [hp]
            have HO5 := Lib.hid (HOY.out.keep hb5)
            have HB5 := Lib.hid (HbY.out.trans (hb5.mono HbY.out.size))
            obtain ⟨y0, y1, y2, y3, y4⟩ := box5 (HYB.out.after hb5)
            have hs5 := HB5.out.size
            clear hb5
            go_wp2_with (at_builtin; refine wpList_app1 rfl _ _ 67 rfl W0.heap.size 25 i0 _ 5 40 Try.underlying67 hi hz0 hz1 hz2 rfl (by omega) (by omega) encC encC_len encC_one (.slice A9 L.length c9) L ⟨bw + h, bs, h, bf, bt⟩ w5 _ rfl _ rfl HO5.out rfl (by omega) hs5 ?_; intro v9 w9 hown9 hb9 _)
            have HO9 := Lib.hid hown9
            have HB9 := Lib.hid (HB5.out.trans hb9)
            clear hown9 hb9
            go_wp2
            go_roundw
            case rel => exact ⟨2 + 1, by omega, by first | rfl | go_num, (show Own _ _ _ _ _ _ _ from by rw [Hsu.out]; exact HO9.out), HB9.out⟩
            case measure => simp [intOf]
        · have hsu := splK_succ (⟨bw, bs, bd, bf, bt⟩ : Cube) 3 (by rw [candC_len]; omega)
          have hcd : (candC (⟨bw, bs, bd, bf, bt⟩ : Cube))[3]'(by rw [candC_len]; omega) = ⟨bw + h, bs + h, h, bf, bt⟩ := by simp [candC, Hh.out]
          have hgd : goodC ⟨bw + h, bs + h, h, bf, bt⟩ = plC ⟨bw + h, bs + h, h, bf, bt⟩ := Hhalf.out _ (by rw [← hcd]; exact List.getElem_mem _)
          rw [hcd, ← hgd] at hsu
          have hll := splK_len (⟨bw, bs, bd, bf, bt⟩ : Cube) 3
          obtain ⟨L, hL⟩ : ∃ L, splK (⟨bw, bs, bd, bf, bt⟩ : Cube) 3 = L := ⟨_, rfl⟩
          rw [hL] at hsu hll hown ⊢
          have hbY : Below wr.heap.size wr (wr.alloc (.cells #[.int .i64 (bw + h), .int .i64 (bs + h), .int .i64 h, .int .i64 bf, .int .i64 bt] 25)) := by (repeat (first | with_reducible exact Below.refl _ _ | with_reducible assumption | with_reducible refine Below.setCell ?_ (by simp <;> omega) _ | with_reducible refine Below.alloc ?_ (by first | omega | (simp <;> omega)) _ | with_reducible refine Below.drew ?_ | with_reducible refine below_drewN ?_ _))
          have HbY := Lib.hid (hbl.out.trans (hbY.mono hs4))
          have HOY := Lib.hid (hown.out.keep hbY)
          have HYB := Lib.hid (Blk.new wr 25 #[.int .i64 (bw + h), .int .i64 (bs + h), .int .i64 h, .int .i64 bf, .int .i64 bt])
          clear hcd hgd hL hown hbY
          cases hp : goodC ⟨bw + h, bs + h, h, bf, bt⟩ with
          | false =>
            rw [hp, if_neg (by simp), List.append_nil] at hsu
            have Hsu := Lib.hid hsu
            clear hsu
            go_wp2_with fail
            refine (l12Good_any ⟨bw + h, bs + h, h, bf, bt⟩ _).mono ?_
            rintro e w5 ⟨rfl, hb5⟩
            rw [hp]
            have HO5 := Lib.hid (HOY.out.keep hb5)
            have HB5 := Lib.hid (HbY.out.trans (hb5.mono HbY.out.size))
            clear hb5
            go_wp2
            go_roundw
            case rel => exact ⟨3 + 1, by omega, by first | rfl | go_num, (show Own _ _ _ _ _ _ _ from by rw [Hsu.out]; exact HO5.out), HB5.out⟩
            case measure => simp [intOf]
          | true =>
            rw [hp, if_pos rfl] at hsu
            have Hsu := Lib.hid hsu
            clear hsu
            go_wp2_with fail
            refine (l12Good_any ⟨bw + h, bs + h, h, bf, bt⟩ _).mono ?_
            rintro e w5 ⟨rfl, hb5⟩
            rw [hp]
            have HO5 := Lib.hid (HOY.out.keep hb5)
            have HB5 := Lib.hid (HbY.out.trans (hb5.mono HbY.out.size))
            obtain ⟨y0, y1, y2, y3, y4⟩ := box5 (HYB.out.after hb5)
            have hs5 := HB5.out.size
            clear hb5
            go_wp2_with (at_builtin; refine wpList_app1 rfl _ _ 67 rfl W0.heap.size 25 i0 _ 5 40 Try.underlying67 hi hz0 hz1 hz2 rfl (by omega) (by omega) encC encC_len encC_one (.slice A9 L.length c9) L ⟨bw + h, bs + h, h, bf, bt⟩ w5 _ rfl _ rfl HO5.out rfl (by omega) hs5 ?_; intro v9 w9 hown9 hb9 _)
            have HO9 := Lib.hid hown9
            have HB9 := Lib.hid (HB5.out.trans hb9)
            clear hown9 hb9
            go_wp2
            go_roundw
            case rel => exact ⟨3 + 1, by omega, by first | rfl | go_num, (show Own _ _ _ _ _ _ _ from by rw [Hsu.out]; exact HO9.out), HB9.out⟩
            case measure => simp [intOf]
      · have hk2 : k = 4 := by omega
        subst hk2
        have HOz := Lib.hid (hown.out.mono (show w.heap.size ≤ W0.heap.size by have := Hz0.out; omega))
        have HBz := Lib.hid (HB0.out.trans (hbl.out.mono HB0.out.size))
        clear hown hbl
        go_wp2
        go_ret
        exact ⟨_, rfl, HOz.out, HBz.out⟩

set_option maxRecDepth 100000 in
set_option maxHeartbeats 1000000 in
theorem sSplitCube_any (b : Cube) (w : World) :
    Calls Try.prog 49 #[.agg #[.int .i64 b.west, .int .i64 b.south, .int .i64 b.side, .int .i64 b.from_, .int .i64 b.to_]] w fun e w' => ∃ A' c', e = .returned (.tuple #[.slice A' (spL b).length c', .bool (okSp b)]) ∧ ((spL b).length ≤ c' ∧ c' ≤ maxLen) ∧ Own encC 5 w' w.heap.size 25 (.slice A' (spL b).length c') (spL b) ∧ Below w.heap.size w w' := by
  unfold spL
  have hB0 : Below w.heap.size w (w.alloc (.cells #[.int .i64 b.west, .int .i64 b.south, .int .i64 b.side, .int .i64 b.from_, .int .i64 b.to_] 25)) := by (repeat (first | with_reducible exact Below.refl _ _ | with_reducible assumption | with_reducible refine Below.setCell ?_ (by simp <;> omega) _ | with_reducible refine Below.alloc ?_ (by first | omega | (simp <;> omega)) _ | with_reducible refine Below.drew ?_ | with_reducible refine below_drewN ?_ _))
  have HX := Lib.hid (Blk.new w 25 #[.int .i64 b.west, .int .i64 b.south, .int .i64 b.side, .int .i64 b.from_, .int .i64 b.to_])
  obtain ⟨x0, x1, x2, x3, x4⟩ := box5 HX.out
  cases hg : goodC b with
  | false =>
    have hk : okSp b = false := by simp [okSp, hg]
    simp only [hk, Bool.false_eq_true, if_false, List.length_nil]
    clear hk
    go_enter Try.func49, Try.ntmps49
    go_wp2_with fail
    refine (l12Good_any b _).mono ?_
    rintro e w1 ⟨rfl, hb1⟩
    rw [hg]
    have hB1 := hB0.trans (hb1.mono hB0.size)
    go_wp2
    go_ret2
    exact ⟨_, 0, rfl, ⟨Nat.le_refl _, Nat.zero_le _⟩, Own.empty _ _ _ hB1.size, hB1.alloc hB1.size _⟩
  | true =>
    by_cases h1 : b.side = 1
    · have hk : okSp b = false := by simp [okSp, h1]
      simp only [hk, Bool.false_eq_true, if_false, List.length_nil]
      clear hk
      have hd : (b.side == 1) = true := by simp [h1]
      have H1 := Lib.hid h1
      clear h1
      go_enter Try.func49, Try.ntmps49
      go_wp2_with fail
      refine (l12Good_any b _).mono ?_
      rintro e w1 ⟨rfl, hb1⟩
      rw [hg]
      have hB1 := hB0.trans (hb1.mono hB0.size)
      obtain ⟨y0, y1, y2, y3, y4⟩ := box5 (HX.out.after hb1)
      go_wp2
      go_ret2
      exact ⟨_, 0, rfl, ⟨Nat.le_refl _, Nat.zero_le _⟩, Own.empty _ _ _ hB1.size, hB1.alloc hB1.size _⟩
    · have hk : okSp b = true := by simp [okSp, hg, h1]
      simp only [hk, if_true]
      clear hk
      have hd : (b.side == 1) = false := by simp [h1]
      have Hc := Lib.hid (fun W => l12Split_any b hg h1 W)
      have hg2 := hg
      clear h1
      go_enter Try.func49, Try.ntmps49
      go_wp2_with fail
      refine (l12Good_any b _).mono ?_
      rintro e w1 ⟨rfl, hb1⟩
      rw [hg]
      have hB1 := hB0.trans (hb1.mono hB0.size)
      obtain ⟨y0, y1, y2, y3, y4⟩ := box5 (HX.out.after hb1)
      go_wp2_with fail
      refine (Hc.out _).mono ?_
      rintro e w2 ⟨v, rfl, hown, hb2⟩
      obtain ⟨A9, c9, rfl, hcc, _⟩ := Own.form encC_len hown
      have HO := Lib.hid (hown.mono hB1.size)
      have hB2 := hB1.trans (hb2.mono hB1.size)
      clear hown hb2
      go_wp2
      go_ret2
      exact ⟨_, _, rfl, hcc, HO.out, hB2⟩

end Go.Proofs.Ytdadcbcanjmoeaa
