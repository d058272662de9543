/-
  Contracts of the functions that draw lists of picks. (Printed by gen_A14.py.)
-/
import Derived.Test.YtiakaglgfboepaaDPick
namespace Go.Proofs.Ytiakaglgfboepaa
set_option linter.unusedVariables false
open Go.RowKit

/-- What the walk of onsets carries. -/
def DSt (w : World) (g : Nat) (W : World) (v : Value) (l : List Pick) (M : Nat) : Prop := Own encP 7 W w.heap.size 25 v l ∧ Cur W g M ∧ w.grownBy W (some g)
theorem DSt.step {w W W' : World} {g M M' : Nat} {v : Value} {l : List Pick} (h : DSt w g W v l M) (hC : Cur W' g M') (hg : W.grownBy W' (some g)) : DSt w g W' v l M' :=
  ⟨h.1.cur h.2.1 hg (by decide), hC, only_trans h.2.2 hg⟩
theorem DSt.below {w W W' : World} {g M : Nat} {v : Value} {l : List Pick} (h : DSt w g W v l M) (hb : Below W.heap.size W W') (hw : w.heap.size ≤ W.heap.size) : DSt w g W' v l M :=
  ⟨h.1.keep hb, h.2.1.after hb, only_belowB h.2.2 hb hw⟩
theorem DSt.size {w W : World} {g M : Nat} {v : Value} {l : List Pick} (h : DSt w g W v l M) : w.heap.size ≤ W.heap.size := h.2.2.size
def LeftB8 (w : World) (g : Nat) (v : Value) (l : List Pick) (M qx : Nat) (x : Pick) (s : Value) (W : World) : Prop := ∃ b : Bool, s = .bool b ∧ v.ownBlock ≠ some qx ∧ (b = true → 0 < l.length) ∧ DSt w g W v l (M + 2) ∧ Blk W qx 25 #[.int .i64 x.id, .int .i64 x.station, .int .i64 x.wave, .int .i64 x.tick, .int .i64 x.err, .int .i64 x.by_, .int .i64 x.after_] ∧ qx < W.heap.size ∧ w.heap.size ≤ qx
def LeftB9 (w : World) (g : Nat) (v : Value) (l : List Pick) (M qx : Nat) (W : World) : Prop := ∃ x : Pick, DSt w g W v l (M + 4) ∧ Blk W qx 25 #[.int .i64 x.id, .int .i64 x.station, .int .i64 x.wave, .int .i64 x.tick, .int .i64 x.err, .int .i64 x.by_, .int .i64 x.after_] ∧ qx < W.heap.size ∧ w.heap.size ≤ qx
theorem Own.far_ {α : Type} {enc : α → List Value} {k : Nat} {w : World} {base : Nat} {E : TypeId} {v : Value} {l : List α} (h : Own enc k w base E v l) {p : Addr} (hne : v.ownBlock ≠ some p.block) (u : Value) : Own enc k (w.setCell p u) base E v l :=
  h.grown (row := some p.block) ⟨rfl, rfl, rfl, by simp [World.setCell], fun i hi hn => Below.heap_setCell w p u i (fun e => hn (by rw [e]))⟩ (fun g hg => by injection hg with hg; subst hg; exact hne)
def LeftB13 (wx : World) (o : List Pick) (x : Pick) (s : Value) (W : World) : Prop := Own encP 7 W wx.heap.size 25 s (o ++ [x]) ∧ Below wx.heap.size wx W

set_option maxRecDepth 100000 in
set_option maxHeartbeats 8000000 in
theorem onsets_any (g m : Nat) (w : World) (h : Cur w g m) (hm : m ≤ 1000) :
    Calls Try.prog 89 #[.pointer (some ⟨g, 0, none⟩)] w fun e w' => ∃ v l, e = .returned v ∧ l.length ≤ 20 ∧ Own encP 7 w' w.heap.size 25 v l ∧ Cur w' g 100000 ∧ w.grownBy w' (some g) := by
  obtain ⟨i0, hi, hz0, hz1, hz2⟩ := info_parts infoP
  have hgl := h.lt
  have hb0 : Below w.heap.size w (w.alloc (.cells #[] 25)) := by (repeat (first | with_reducible exact Below.refl _ _ | with_reducible assumption | with_reducible refine Below.setCell ?_ (by simp <;> omega) _ | with_reducible refine Below.alloc ?_ (by first | omega | (simp <;> omega)) _ | with_reducible refine Below.drew ?_ | with_reducible refine below_drewN ?_ _))
  have HD0 : Hid (DSt w g (w.alloc (.cells #[] 25)) (.slice (some ⟨w.heap.size, 0, none⟩) 0 0) [] m) := ⟨Own.empty _ _ _ (Nat.le_refl _), h.after hb0, only_of_below hb0 _⟩
  clear hb0 h
  go_enter Try.func89, Try.ntmps89
  go_wp2_with fail
  refine (pick_any g m 10 _ HD0.out.2.1 (by omega) (by omega)).mono ?_
  rintro e w1 ⟨n0, rfl, ⟨hn0, hx⟩, hC, hg⟩
  have HD1 := Lib.hid (HD0.out.step hC hg)
  have hn1 : n0 ≤ 9 := by omega
  clear hC hg hx
  obtain ⟨nn, rfl⟩ := Int.eq_ofNat_of_zero_le hn0
  go_wp2
  go_loopg [3, 4, 5] nn (fun gm v s i wr => ∃ (q : Nat) (idn : Int) (ga cp : Nat) (l : List Pick) (M : Nat), q = gm ∧ v = .slice (some ⟨ga, 0, none⟩) l.length cp ∧ (l.length ≤ cp ∧ cp ≤ maxLen) ∧ s = .int .i64 idn ∧ i = .int .i64 q ∧ (0 ≤ idn ∧ idn ≤ 1000) ∧ Hid (idn + q * 3 ≤ 40 ∧ l.length + q ≤ 10 ∧ M + q * 100 ≤ 3000) ∧ Hid (DSt w g wr (.slice (some ⟨ga, 0, none⟩) l.length cp) l M))
  case atStart => exact ⟨nn, 0, w.heap.size, 0, [], m + 2, rfl, rfl, ⟨Nat.le_refl _, Nat.zero_le _⟩, rfl, rfl, ⟨by omega, by omega⟩, (show _ ∧ _ from ⟨by omega, by simp; omega, by omega⟩), HD1.out⟩
  case round =>
    obtain ⟨q, idn, ga, cp, l, M, rfl, rfl, ⟨hlc, hcm⟩, rfl, rfl, ⟨hi1, hi2⟩, Hq, HD⟩ := hrel
    have hsw := HD.out.size
    have hM : M ≤ 3000 := by have := Hq.out; omega
    have hll : l.length ≤ 10 := by have := Hq.out; omega
    by_cases hq : q = 0
    · subst hq
      go_wp2_with fail
      refine (one_any g M 24 _ HD.out.2.1 (by omega) (by omega)).mono ?_
      rintro e w2 ⟨bo, rfl, hC, hg⟩
      have HD2 := Lib.hid (HD.out.step hC hg)
      clear hC hg
      cases bo with
      | false =>
        go_wp2
        go_ret
        exact ⟨_, l, rfl, by omega, HD2.out.1, HD2.out.2.1.more (by omega), HD2.out.2.2⟩
      | true =>
        have hs2 := HD2.out.size
        have hbe : Below w2.heap.size w2 (w2.alloc (.cells #[] 25)) := by (repeat (first | with_reducible exact Below.refl _ _ | with_reducible assumption | with_reducible refine Below.setCell ?_ (by simp <;> omega) _ | with_reducible refine Below.alloc ?_ (by first | omega | (simp <;> omega)) _ | with_reducible refine Below.drew ?_ | with_reducible refine below_drewN ?_ _))
        have HDe : Hid (DSt w g (w2.alloc (.cells #[] 25)) (.slice (some ⟨w2.heap.size, 0, none⟩) 0 0) [] (M + 2)) := ⟨Own.empty _ _ _ hs2, HD2.out.2.1.after hbe, only_belowB HD2.out.2.2 hbe hs2⟩
        clear hbe
        go_wp2
        go_loopw [3, 9] (fun v i wr => ∃ (k : Nat) (l : List Pick) (M : Nat), l.length = k ∧ i = .int .i64 k ∧ k ≤ 13 ∧ Hid (M + (13 - k) * 10 ≤ 5000) ∧ Hid (DSt w g wr v l M)) (fun _ i _ => 13 - (intOf i).toNat)
        case atStart => exact ⟨0, [], M + 2, rfl, rfl, by omega, (show _ ≤ _ from by omega), HDe.out⟩
        case round =>
          obtain ⟨k, l2, M2, hlk, rfl, hk13, Hm2, HD3⟩ := hrel
          have hM2 : M2 ≤ 5000 := by have := Hm2.out; omega
          have Hlk := Lib.hid hlk
          obtain ⟨A9, c9, rfl, _, _⟩ := Own.form encP_len HD3.out.1
          clear hlk
          go_wp2_with fail
          refine (pick_any g M2 2 _ HD3.out.2.1 (by omega) (by omega)).mono ?_
          rintro e w4 ⟨r, rfl, ⟨hr0, hx⟩, hC, hg⟩
          have HD4 := Lib.hid (HD3.out.step hC hg)
          have hr1 : r ≤ 1 := by omega
          have hs4 := HD4.out.size
          have hl2 : l2.length ≤ 1048576 := by have := Hlk.out; omega
          clear hC hg hx
          by_cases hlt : (k : Int) < 12 + r
          · have HO4 := Lib.hid HD4.out.1
            go_wp2_with (at_builtin; refine wpList_app1 rfl _ _ 31 rfl w.heap.size 25 i0 _ 7 56 Try.underlying31 hi hz0 hz1 hz2 rfl (by omega) (by omega) encP encP_len encP_one (.slice A9 l2.length c9) l2 ⟨(k : Int) + 1, 1, 0, 5 * (k : Int), 0, 0, k⟩ w4 _ rfl _ rfl HO4.out rfl hl2 hs4 ?_; intro v5 w5 hown5 hb5 _)
            have HD5 : Hid (DSt w g w5 v5 _ (M2 + 2)) := ⟨hown5, HD4.out.2.1.belowB hb5 hgl, only_belowB HD4.out.2.2 hb5 (Nat.le_refl _)⟩
            clear hown5 hb5
            go_wp2
            go_roundw
            case rel => exact ⟨k + 1, _, M2 + 2, by simp [Hlk.out], by go_num, by omega, (show _ ≤ _ from by have := Hm2.out; omega), HD5.out⟩
            case measure => simp [intOf]; omega
          · go_wp2
            go_ret
            exact ⟨_, l2, rfl, by have := Hlk.out; omega, HD4.out.1, HD4.out.2.1.more (by omega), HD4.out.2.2⟩
    · obtain ⟨q', rfl⟩ : ∃ q', q = q' + 1 := ⟨q - 1, by omega⟩
      have hq9 : q' ≤ 13 := by have := Hq.out; omega
      go_wp2_with fail
      refine (pick_any g M 2 _ HD.out.2.1 (by omega) (by omega)).mono ?_
      rintro e w2 ⟨k2, rfl, ⟨hk20, hx⟩, hC, hg⟩
      have HD2 := Lib.hid (HD.out.step hC hg)
      have hk21 : k2 ≤ 1 := by omega
      clear hC hg hx
      go_wp2_with fail
      refine (onset_any g (M + 2) _ _ HD2.out.2.1 (by omega) (by omega) (by omega)).mono ?_
      rintro e w3 ⟨x, rfl, hC, hg⟩
      have HD3 := Lib.hid (HD2.out.step hC hg)
      have hs3 := HD3.out.size
      clear hC hg
      have hbx : Below w3.heap.size w3 (w3.alloc (.cells #[.int .i64 x.id, .int .i64 x.station, .int .i64 x.wave, .int .i64 x.tick, .int .i64 x.err, .int .i64 x.by_, .int .i64 x.after_] 25)) := by (repeat (first | with_reducible exact Below.refl _ _ | with_reducible assumption | with_reducible refine Below.setCell ?_ (by simp <;> omega) _ | with_reducible refine Below.alloc ?_ (by first | omega | (simp <;> omega)) _ | with_reducible refine Below.drew ?_ | with_reducible refine below_drewN ?_ _))
      have HD4 := Lib.hid (HD3.out.below hbx hs3)
      have HX := Lib.hid (Blk.new w3 25 #[.int .i64 x.id, .int .i64 x.station, .int .i64 x.wave, .int .i64 x.tick, .int .i64 x.err, .int .i64 x.by_, .int .i64 x.after_])
      have hne : (Value.slice (some ⟨ga, 0, none⟩) l.length cp).ownBlock ≠ some w3.heap.size := fun e9 => by have := (HD3.out.1.lt _ e9).2; omega
      have HNE0 := Lib.hid hne
      clear hbx hne
      go_upto_region 8 with (fail)
      go_cut [31] (fun s W => LeftB8 w g (.slice (some ⟨ga, 0, none⟩) l.length cp) l (M + 22) w3.heap.size x s W)
      case first =>
        by_cases hl0 : (l.length : Int) > 0
        · go_wp2_with fail
          refine (one_any g (M + 22) 2 _ HD4.out.2.1 (by omega) (by omega)).mono ?_
          rintro e w5 ⟨bo, rfl, hC, hg⟩
          have HD5 := Lib.hid (HD4.out.step hC hg)
          have HX5 := Lib.hid (HX.out.grown hg (by intro e9; injection e9; have := HD3.out.2.1.lt; omega))
          clear hC hg
          go_wp2
          all_goals go_meet
          all_goals exact ⟨bo, rfl, HNE0.out, (fun _ => by omega), HD5.out, HX5.out, HX5.out.lt, hs3⟩
        · go_wp2
          all_goals go_meet
          all_goals exact ⟨false, rfl, HNE0.out, (fun h9 => by cases h9), ⟨HD4.out.1, HD4.out.2.1.more (by omega), HD4.out.2.2⟩, HX.out, by simp, hs3⟩
      case rest =>
        obtain ⟨bo, rfl, hne, hbo, hD5, hX5, hql, hqw⟩ := hcut
        obtain ⟨w5, rfl⟩ : ∃ w5 : World, w5 = wc := ⟨_, rfl⟩
        clear HX HD4 HD3 HD2 HD hs3 HNE0
        generalize w3.heap.size = qx at *
        have HD5 := Lib.hid hD5
        have HX5 := Lib.hid hX5
        have HNE := Lib.hid hne
        clear hne hD5 hX5
        go_upto_if 31 with (fail)
        go_cut [] (fun W => LeftB9 w g (.slice (some ⟨ga, 0, none⟩) l.length cp) l (M + 22) qx W)
        case first =>
          cases bo with
          | false =>
            go_wp2
            all_goals go_meet
            all_goals exact ⟨x, ⟨HD5.out.1, HD5.out.2.1.more (by omega), HD5.out.2.2⟩, HX5.out, hql, hqw⟩
          | true =>
            have hl0 : 0 < l.length := hbo rfl
            clear hbo
            go_wp2_with fail
            refine (pick_any g (M + 22 + 2) l.length _ HD5.out.2.1 (by omega) (by omega)).mono ?_
            rintro e w6 ⟨j, rfl, ⟨hj0, hx⟩, hC, hg⟩
            have HD6 := Lib.hid (HD5.out.step hC hg)
            have HX6 := Lib.hid (HX5.out.grown hg (by intro e9; injection e9; omega))
            have hj1 : j < l.length := by omega
            clear hC hg hx
            obtain ⟨jn, rfl⟩ := Int.eq_ofNat_of_zero_le hj0
            have hjn : jn < l.length := by omega
            obtain ⟨b9, o9, e9, hb9, c0, c1, c2, c3, c4, c5, c6⟩ := cellsP (Own.rd' encP_len HD6.out.1) hjn
            injection e9 with e9
            injection e9 with e1 e2
            subst e1 e2
            simp only [Nat.zero_add] at c0 c1 c2 c3 c4 c5 c6
            generalize l[jn] = y at *
            have hs6 := HD6.out.size
            have hX6 := HX6.out
            have hq6 := hX6.lt
            obtain ⟨x0, x1, x2, x3, x4, x5, x6⟩ := box7 hX6
            have f1 := hX6.frozen 1
            have f2 := hX6.frozen 2
            have f6 := hX6.frozen 6
            have hqn : ¬ qx = w6.heap.size := by omega
            have hqn2 : ¬ w6.heap.size = qx := by omega
            have hby : Below w.heap.size w6 ((((w6.setCell ⟨qx, 1, none⟩ (.int .i64 y.station)).setCell ⟨qx, 2, none⟩ (.int .i64 y.wave)).setCell ⟨qx, 6, none⟩ (.int .i64 y.id)).alloc (.cells #[.int .i64 y.id, .int .i64 y.station, .int .i64 y.wave, .int .i64 y.tick, .int .i64 y.err, .int .i64 y.by_, .int .i64 y.after_] 25)) := by (repeat (first | with_reducible exact Below.refl _ _ | with_reducible assumption | with_reducible refine Below.setCell ?_ (by simp <;> omega) _ | with_reducible refine Below.alloc ?_ (by first | omega | (simp <;> omega)) _ | with_reducible refine Below.drew ?_ | with_reducible refine below_drewN ?_ _))
            have HX7 := Lib.hid ((((hX6.set_ 1 (.int .i64 y.station)).set_ 2 (.int .i64 y.wave)).set_ 6 (.int .i64 y.id)).alloc (.cells #[.int .i64 y.id, .int .i64 y.station, .int .i64 y.wave, .int .i64 y.tick, .int .i64 y.err, .int .i64 y.by_, .int .i64 y.after_] 25))
            have hsx : w.heap.size ≤ qx := hqw
            have HD7 : Hid (DSt w g ((((w6.setCell ⟨qx, 1, none⟩ (.int .i64 y.station)).setCell ⟨qx, 2, none⟩ (.int .i64 y.wave)).setCell ⟨qx, 6, none⟩ (.int .i64 y.id)).alloc (.cells #[.int .i64 y.id, .int .i64 y.station, .int .i64 y.wave, .int .i64 y.tick, .int .i64 y.err, .int .i64 y.by_, .int .i64 y.after_] 25)) (.slice (some ⟨ga, 0, none⟩) l.length cp) l (M + 22 + 4)) :=
              ⟨((((HD6.out.1.far_ (p := ⟨qx, 1, none⟩) HNE.out _).far_ (p := ⟨qx, 2, none⟩) HNE.out _).far_ (p := ⟨qx, 6, none⟩) HNE.out _).alloc _), (HD6.out.2.1.belowB hby hgl).more (by omega), only_belowB HD6.out.2.2 hby (Nat.le_refl _)⟩
            clear hX6 hby
            go_wp2
            all_goals go_meet
            all_goals exact ⟨⟨x.id, y.station, y.wave, x.tick, x.err, x.by_, y.id⟩, HD7.out, HX7.out, by simp; omega, hqw⟩
        case rest =>
          obtain ⟨x', hD7, hX7, hql7, hqw7⟩ := hcut
          obtain ⟨wx, rfl⟩ : ∃ wx : World, wx = wc := ⟨_, rfl⟩
          have HD7 := Lib.hid hD7
          have HX7 := Lib.hid hX7
          clear hD7 hX7 HD5 HX5 x hbo
          obtain ⟨x, rfl⟩ : ∃ x, x = x' := ⟨_, rfl⟩
          have hord := Own.rd' encP_len HD7.out.1
          have hs7 := HD7.out.size
          have HS := Lib.hid (fun (w' : World) (hW : Below wx.heap.size wx w') => (show w'.cell? ⟨qx, 0, none⟩ = some (.int .i64 x.id) ∧ w'.cell? ⟨qx, 1, none⟩ = some (.int .i64 x.station) ∧ w'.cell? ⟨qx, 2, none⟩ = some (.int .i64 x.wave) ∧ w'.cell? ⟨qx, 3, none⟩ = some (.int .i64 x.tick) ∧ w'.cell? ⟨qx, 4, none⟩ = some (.int .i64 x.err) ∧ w'.cell? ⟨qx, 5, none⟩ = some (.int .i64 x.by_) ∧ w'.cell? ⟨qx, 6, none⟩ = some (.int .i64 x.after_) from box7 (HX7.out.after hW)))
          obtain ⟨c0, c1, c2, c3, c4, c5, c6⟩ := box7 HX7.out
          obtain ⟨o, ho⟩ : ∃ o, l = o := ⟨_, rfl⟩
          subst ho
          obtain ⟨o, rfl⟩ : ∃ o, o = l := ⟨_, rfl⟩
          go_upto_region 13 with (fail)
          go_cut [8] (fun s W => LeftB13 wx o x s W)
          case first =>
            have HO1 := Lib.hid ((Own.empty (enc := encP) (k := 7) wx wx.heap.size 25 (Nat.le_refl _)).keep (show Below _ _ (wx.alloc (.cells #[] 25)).drew from (Below.refl _ _).drew))
            have HO2 := Lib.hid (((Own.empty (enc := encP) (k := 7) wx wx.heap.size 25 (Nat.le_refl _)).alloc (.cells #[.int .i64 x.id, .int .i64 x.station, .int .i64 x.wave, .int .i64 x.tick, .int .i64 x.err, .int .i64 x.by_, .int .i64 x.after_] 25)).keep (show Below _ _ ((wx.alloc (.cells #[] 25)).alloc (.cells #[.int .i64 x.id, .int .i64 x.station, .int .i64 x.wave, .int .i64 x.tick, .int .i64 x.err, .int .i64 x.by_, .int .i64 x.after_] 25)).drew from (Below.refl _ _).drew))
            have HN2 : Hid (Blk ((wx.alloc (.cells #[] 25)).alloc (.cells #[.int .i64 x.id, .int .i64 x.station, .int .i64 x.wave, .int .i64 x.tick, .int .i64 x.err, .int .i64 x.by_, .int .i64 x.after_] 25)).drew (wx.heap.size + 1) 25 #[.int .i64 x.id, .int .i64 x.station, .int .i64 x.wave, .int .i64 x.tick, .int .i64 x.err, .int .i64 x.by_, .int .i64 x.after_]) := by
              have hq := (Blk.new (wx.alloc (.cells #[] 25)) 25 #[.int .i64 x.id, .int .i64 x.station, .int .i64 x.wave, .int .i64 x.tick, .int .i64 x.err, .int .i64 x.by_, .int .i64 x.after_]).drew
              simp at hq
              exact hq
            have HO3 : Hid (Own encP 7 ((wx.alloc (.cells #[.int .i64 x.id, .int .i64 x.station, .int .i64 x.wave, .int .i64 x.tick, .int .i64 x.err, .int .i64 x.by_, .int .i64 x.after_] 25)).alloc (.cells #[] 25)).drew wx.heap.size 25 (.slice (some ⟨wx.heap.size + 1, 0, none⟩) 0 0) []) := by
              have hq := (Own.empty (enc := encP) (k := 7) (wx.alloc (.cells #[.int .i64 x.id, .int .i64 x.station, .int .i64 x.wave, .int .i64 x.tick, .int .i64 x.err, .int .i64 x.by_, .int .i64 x.after_] 25)) wx.heap.size 25 (by simp)).keep (Below.refl _ _).drew
              simp at hq
              exact hq
            have HN3 := Lib.hid (show Blk ((wx.alloc (.cells #[.int .i64 x.id, .int .i64 x.station, .int .i64 x.wave, .int .i64 x.tick, .int .i64 x.err, .int .i64 x.by_, .int .i64 x.after_] 25)).alloc (.cells #[] 25)).drew wx.heap.size 25 #[.int .i64 x.id, .int .i64 x.station, .int .i64 x.wave, .int .i64 x.tick, .int .i64 x.err, .int .i64 x.by_, .int .i64 x.after_] from ((Blk.new wx _ _).alloc _).drew)
            have HsA := Lib.hid (fun (W : World) (hW : Below wx.heap.size wx W) => (hord.below hW).flat_ encP_len (by omega))
            go_region_held3 (fun w' => w'.cell? ⟨qx, 0, none⟩ = some (.int .i64 x.id) ∧ w'.cell? ⟨qx, 1, none⟩ = some (.int .i64 x.station) ∧ w'.cell? ⟨qx, 2, none⟩ = some (.int .i64 x.wave) ∧ w'.cell? ⟨qx, 3, none⟩ = some (.int .i64 x.tick) ∧ w'.cell? ⟨qx, 4, none⟩ = some (.int .i64 x.err) ∧ w'.cell? ⟨qx, 5, none⟩ = some (.int .i64 x.by_) ∧ w'.cell? ⟨qx, 6, none⟩ = some (.int .i64 x.after_)) (first | exact HS.out _ (by (repeat (first | with_reducible exact Below.refl _ _ | with_reducible assumption | with_reducible refine Below.setCell ?_ (by simp <;> omega) _ | with_reducible refine Below.alloc ?_ (by first | omega | (simp <;> omega)) _ | with_reducible refine Below.drew ?_ | with_reducible refine below_drewN ?_ _))) | go_keep) (first | (refine step_appL (by rfl) _ _ 31 (by rfl) wx.heap.size 25 i0 _ 7 56 Try.underlying31 hi hz0 hz1 hz2 rfl (by omega) (by omega) encP encP_len encP_one _ [] o _ _ _ _ (by rfl) (by rfl) (by first | exact HO1.out | exact HO2.out | exact HO3.out) rfl (HsA.out _ (by (repeat (first | with_reducible exact Below.refl _ _ | with_reducible assumption | with_reducible refine Below.setCell ?_ (by simp <;> omega) _ | with_reducible refine Below.alloc ?_ (by first | omega | (simp <;> omega)) _ | with_reducible refine Below.drew ?_ | with_reducible refine below_drewN ?_ _)))) (by simp; omega) (by first | omega | (simp <;> omega)) ?_; intro v5 w5 hown5 hbl5 hgr5; rw [List.nil_append] at hown5; have hb5 := Below.trans (show Below wx.heap.size wx _ from (by (repeat (first | with_reducible exact Below.refl _ _ | with_reducible assumption | with_reducible refine Below.setCell ?_ (by simp <;> omega) _ | with_reducible refine Below.alloc ?_ (by first | omega | (simp <;> omega)) _ | with_reducible refine Below.drew ?_ | with_reducible refine below_drewN ?_ _)))) hbl5; have hs5 := hb5.size; (try (have HN5a := Lib.hid (HN2.out.grown hgr5 (fun e9 => Nat.succ_ne_self wx.heap.size (Option.some.inj e9))))); (try (have HN5b := Lib.hid (HN3.out.grown hgr5 (fun e9 => Nat.succ_ne_self wx.heap.size (Option.some.inj e9).symm)))); have Hown5 := Lib.hid hown5; clear hown5 hbl5 hgr5) | (refine step_app1 (by rfl) _ _ 31 (by rfl) wx.heap.size 25 i0 _ 7 56 Try.underlying31 hi hz0 hz1 hz2 rfl (by omega) (by omega) encP encP_len encP_one _ o x #[.int .i64 x.id, .int .i64 x.station, .int .i64 x.wave, .int .i64 x.tick, .int .i64 x.err, .int .i64 x.by_, .int .i64 x.after_] (by rfl) _ _ _ (by rfl) (by rfl) (by first | exact Hown5.out | exact Hown5.out.alloc _ | exact (Hown5.out.alloc _).keep (Below.refl _ _).drew | exact Hown5.out.keep (Below.refl _ _).drew) (by first | exact HN5a.out | exact HN5b.out | exact Blk.new _ _ _ | exact HN5a.out.drew | exact HN5b.out.drew | exact (Blk.new _ _ _).drew) (by omega) (by first | omega | (simp <;> omega)) ?_; intro v6 w6 hown6 hbl6 hgr6; have hb6 := Below.trans (show Below wx.heap.size wx _ from (by (repeat (first | with_reducible exact Below.refl _ _ | with_reducible assumption | with_reducible refine Below.setCell ?_ (by simp <;> omega) _ | with_reducible refine Below.alloc ?_ (by first | omega | (simp <;> omega)) _ | with_reducible refine Below.drew ?_ | with_reducible refine below_drewN ?_ _)))) hbl6; have hs6 := hb6.size; clear hbl6 hgr6))
            all_goals go_wp2_with fail
            all_goals go_meet
            all_goals exact ⟨hown6, hb6⟩
          case rest =>
            obtain ⟨hO, hby⟩ := hcut
            obtain ⟨w8, rfl⟩ : ∃ w8 : World, w8 = wc := ⟨_, rfl⟩
            have hnl : (o ++ [x]).length = o.length + 1 := by simp
            obtain ⟨N, hN⟩ : ∃ N, o ++ [x] = N := ⟨_, rfl⟩
            rw [hN] at hO hnl
            obtain ⟨A8, c8, e8, hc8, hr8⟩ := Own.form encP_len hO
            subst e8
            obtain ⟨g8, cs8, e8, _⟩ := hO.blk (show 0 < N.length by omega)
            subst e8
            have HN8 : Hid (DSt w g w8 (.slice (some ⟨g8, 0, none⟩) N.length c8) N (M + 26)) := ⟨hO.mono hs7, HD7.out.2.1.after hby, only_belowB HD7.out.2.2 hby hs7⟩
            have HO8 := Lib.hid (HD7.out.below hby hs7)
            have Hnl := Lib.hid hnl
            have hN12 : N.length ≤ 1048576 := by omega
            clear hO hby hN hnl HD7 HX7 HS hord c0 c1 c2 c3 c4 c5 c6
            go_wp2_with fail
            refine (l7Good_any _ c8 N _ hr8 hN12 hc8).mono ?_
            rintro e w9 ⟨rfl, hb9⟩
            have hs8 := HN8.out.size
            have HN9 := Lib.hid (HN8.out.below hb9 hs8)
            have HO9 := Lib.hid (HO8.out.below hb9 hs8)
            obtain ⟨pb, hpb⟩ : ∃ pb, picksS N = pb := ⟨_, rfl⟩
            rw [hpb]
            clear hb9 hr8 hpb HN8 HO8
            cases pb with
            | true =>
              go_wp2
              go_roundg q'
              case measure => omega
              case rel => exact ⟨q', _, g8, c8, N, M + 26, rfl, rfl, hc8, rfl, by go_num, ⟨by have := Hq.out; omega, by have := Hq.out; omega⟩, (show _ ∧ _ from ⟨by have := Hq.out; omega, by have := Hq.out; have := Hnl.out; omega, by have := Hq.out; omega⟩), HN9.out⟩
            | false =>
              go_wp2_with fail
              refine (one_any g (M + 26) 50 _ HN9.out.2.1 (by omega) (by omega)).mono ?_
              rintro e w10 ⟨b10, rfl, hC, hg⟩
              have HN10 := Lib.hid (HN9.out.step hC hg)
              have HO10 := Lib.hid (HO9.out.step hC hg)
              clear hC hg
              cases b10 with
              | true =>
                go_wp2
                go_roundg q'
                case measure => omega
                case rel => exact ⟨q', _, g8, c8, N, M + 26 + 2, rfl, rfl, hc8, rfl, by go_num, ⟨by have := Hq.out; omega, by have := Hq.out; omega⟩, (show _ ∧ _ from ⟨by have := Hq.out; omega, by have := Hq.out; have := Hnl.out; omega, by have := Hq.out; omega⟩), HN10.out⟩
              | false =>
                go_wp2
                go_roundg q'
                case measure => omega
                case rel => exact ⟨q', _, ga, cp, o, M + 26 + 2, rfl, rfl, ⟨hlc, hcm⟩, rfl, by go_num, ⟨by have := Hq.out; omega, by have := Hq.out; omega⟩, (show _ ∧ _ from ⟨by have := Hq.out; omega, by have := Hq.out; have := Hnl.out; omega, by have := Hq.out; omega⟩), HO10.out⟩

end Go.Proofs.Ytiakaglgfboepaa
