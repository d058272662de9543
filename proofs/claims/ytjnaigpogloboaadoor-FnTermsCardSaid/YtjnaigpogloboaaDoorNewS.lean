/-
  Contract of the reference's NewTerms. (Printed by gen_E9.py.)
-/
import Derived.Test.YtjnaigpogloboaaDoorMedS
namespace Go.Proofs.YtjnaigpogloboaaDoor
set_option linter.unusedVariables false
open Go.RowKit

theorem newS_yes {t : List TableRow} {m : Int} {s : Swing} (h : bonOk t s.far = true) : newS t m s = ⟨s.station, s.far, s.width, max (-50) (min 50 (s.term - (magV t s - m)))⟩ := by unfold newS; rw [if_pos h]
theorem newS_no {t : List TableRow} {m : Int} {s : Swing} (h : bonOk t s.far = false) : newS t m s = s := by unfold newS; rw [h]; rfl

set_option maxRecDepth 100000 in
set_option maxHeartbeats 4000000 in
theorem sNewTerms_any (A A2 : Option Addr) (c c2 : Nat) (t : List TableRow) (l : List Swing) (w : World) (h : Rd encT 2 w w.heap.size A t) (h2 : Rd encS 4 w w.heap.size A2 l) (hl : t.length ≤ 1048576) (hl2 : l.length ≤ 1048576) :
    Calls Tryd.prog 36 #[.slice A t.length c, .slice A2 l.length c2] w fun e w' => ∃ A' c', e = .returned (.tuple #[.slice A' (newL t l).length c', .bool (hasMM t l)]) ∧ ((newL t l).length ≤ c' ∧ c' ≤ maxLen) ∧ Own encS 4 w' w.heap.size 37 (.slice A' (newL t l).length c') (newL t l) ∧ Below w.heap.size w w' := by
  have hb0 : Below w.heap.size w (w.alloc (.cells #[] 37)) := by (repeat (first | with_reducible exact Below.refl _ _ | with_reducible assumption | with_reducible refine Below.setCell ?_ (by simp <;> omega) _ | with_reducible refine Below.alloc ?_ (by first | omega | (simp <;> omega)) _ | with_reducible refine Below.drew ?_ | with_reducible refine below_drewN ?_ _))
  have Ho0 := Lib.hid (Own.empty (enc := encS) (k := 4) w w.heap.size 37 (Nat.le_refl _))
  have HMed := Lib.hid (sMedianMagnitude_any A A2 c c2 t l _ ((h.below hb0).more hb0.size) ((h2.below hb0).more hb0.size) hl hl2)
  cases hk : hasMM t l with
  | false =>
    have hm0 : newL t l = [] := by unfold newL; rw [hk]; rfl
    rw [hm0]
    rw [hk] at HMed
    generalize midM t l = m at *
    clear hm0 hk
    go_enter Tryd.func36, Tryd.ntmps36
    go_wp2_with fail
    refine HMed.out.mono ?_
    rintro e w1 ⟨rfl, hb1⟩
    have Ho1 := Lib.hid (Ho0.out.keep hb1)
    go_wp2
    go_ret2
    exact ⟨_, _, rfl, ⟨Nat.le_refl _, Nat.zero_le _⟩, Ho1.out, hb0.trans (hb1.mono hb0.size)⟩
  | true =>
    obtain ⟨hka, hpos⟩ := hasMM_iff hk
    obtain ⟨hg, hs, hl10, hgs⟩ := askMM_iff hka
    have hmb := midM_bd t l
    have hnew : newL t l = l.map (newS t (midM t l)) := by unfold newL; rw [if_pos hk]
    rw [hnew, List.length_map]
    rw [hk] at HMed
    generalize midM t l = m at *
    have HMag := Lib.hid (fun (W : World) (s : Swing) (hB : Below w.heap.size w W) (hw : goodW s = true) => l11Magnitude_any A c t s W ((h.below hB).more hB.size) hg hw)
    have HR2 := Lib.hid (fun (W : World) (hB : Below w.heap.size w W) => h2.below hB)
    have Hs := Lib.hid hgs
    have Hall := Lib.hid (List.take_of_length_le (Nat.le_refl l.length))
    obtain ⟨i0, hi, hz0, hz1, hz2⟩ := info_parts infoS
    obtain ⟨f, hf⟩ : ∃ f, newS t m = f := ⟨_, rfl⟩
    rw [hf]
    have Hf := Lib.hid hf
    clear hgs hnew hk hpos hf
    go_enter Tryd.func36, Tryd.ntmps36
    go_wp2_with fail
    refine HMed.out.mono ?_
    rintro e w1 ⟨rfl, hb1⟩
    have Ho1 := Lib.hid (Ho0.out.keep hb1)
    have HB1 := Lib.hid (hb0.trans (hb1.mono hb0.size))
    clear hb1
    go_wp2
    go_loopw [6, 9] (fun v i wr => ∃ k : Nat, k ≤ l.length ∧ i = .int .i64 k ∧ Hid (Own encS 4 wr w.heap.size 37 v ((l.take k).map f)) ∧ Hid (Below w.heap.size w wr)) (fun _ i _ => l.length - (intOf i).toNat)
    case atStart => exact ⟨0, Nat.zero_le _, rfl, (by rw [List.take_zero]; exact Ho1.out), HB1.out⟩
    case round =>
      obtain ⟨k, hkl, rfl, hown, HBr⟩ := hrel
      by_cases hlt : k < l.length
      · have hgx := Hs.out _ (List.getElem_mem hlt)
        have hnx : (l.take (k + 1)).map f = (l.take k).map f ++ [f l[k]] := by rw [List.take_succ_eq_append_getElem hlt, List.map_append]; rfl
        obtain ⟨b, off, hA, hb, c0, c1, c2', c3⟩ := cellsS (HR2.out _ HBr.out) hlt
        subst hA
        obtain ⟨N, hN⟩ : ∃ N, (l.take k).map f = N := ⟨_, rfl⟩
        have hNl : N.length ≤ 10 := by rw [← hN, List.length_map, List.length_take]; omega
        rw [hN] at hown hnx
        have hfx : f l[k] = newS t m l[k] := by rw [Hf.out]
        generalize l[k] = s at *
        have Hnx := Lib.hid hnx
        have Hfx := Lib.hid hfx
        have hs7 := HBr.out.size
        have hbx : Below wr.heap.size wr (wr.alloc (.cells #[.int .i64 s.station, .int .i64 s.far, .int .i64 s.width, .int .i64 s.term] 37)) := by (repeat (first | with_reducible exact Below.refl _ _ | with_reducible assumption | with_reducible refine Below.setCell ?_ (by simp <;> omega) _ | with_reducible refine Below.alloc ?_ (by first | omega | (simp <;> omega)) _ | with_reducible refine Below.drew ?_ | with_reducible refine below_drewN ?_ _))
        have HBx := Lib.hid hbx
        have HCall := Lib.hid (HMag.out _ s (HBr.out.trans (hbx.mono hs7)) hgx)
        obtain ⟨B', d', rfl, hcd, _⟩ := Own.form encS_len hown.out
        have HX := Lib.hid (Blk.new wr 37 #[.int .i64 s.station, .int .i64 s.far, .int .i64 s.width, .int .i64 s.term])
        obtain ⟨z0, z1, z2, z3⟩ := box4 HX.out
        clear hnx hN hfx hbx
        go_wp2_with fail
        refine HCall.out.mono ?_
        rintro e w4 ⟨rfl, hb4⟩
        have HL4 := Lib.hid (HBx.out.trans (hb4.mono HBx.out.size))
        have HX4 := Lib.hid (HX.out.after hb4)
        have hs4 : wr.heap.size ≤ w4.heap.size := HL4.out.size
        have hx4 := HX4.out.lt
        clear hb4 c0 c1 c2' c3 z0 z1 z2 z3
        cases hbo : bonOk t s.far with
        | false =>
          have H1 := Lib.hid (show f s = s by rw [Hfx.out, newS_no hbo])
          have HB4 := Lib.hid (HBr.out.trans (HL4.out.mono hs7))
          have Ho4 := Lib.hid (hown.out.keep HL4.out)
          obtain ⟨z0, z1, z2, z3⟩ := box4 HX4.out
          have hsw := HB4.out.size
          clear hbo
          go_wp2_with (at_builtin; refine wpList_app1 rfl _ _ 43 rfl w.heap.size 37 i0 _ 4 32 Tryd.underlying43 hi hz0 hz1 hz2 rfl (by omega) (by omega) encS encS_len encS_one (.slice B' N.length d') N s w4 _ rfl _ rfl Ho4.out rfl (by omega) (by omega) ?_; intro v' w5 hown5 hb5 _)
          have Ho5 := Lib.hid hown5
          have HB5 := Lib.hid (HB4.out.trans hb5)
          clear hown5 hb5
          go_wp2
          go_roundw
          case rel => exact ⟨k + 1, by omega, by go_num, (by rw [Hnx.out, H1.out]; exact Ho5.out), HB5.out⟩
          case measure => simp [intOf]; omega
        | true =>
          have hmv : magO t s = magV t s := by unfold magO; rw [hbo]; rfl
          rw [hmv]
          have hvb := magV_bd hg hgx
          have hwb := (goodW_iff.1 hgx).2.2.2
          have hy := newS_yes (m := m) hbo
          rw [← Hfx.out] at hy
          obtain ⟨x, hx⟩ : ∃ x, magV t s = x := ⟨_, rfl⟩
          rw [hx] at hy hvb ⊢
          obtain ⟨z0, z1, z2, z3⟩ := box4 HX4.out
          have hf3 := HX4.out.frozen 3
          have hcl : s.term - x + m = s.term - (x - m) := by omega
          have hlo := fun W => l1Least_any 50 (s.term - x + m) W
          have hmo := fun W => l1Most_any (-50) (min 50 (s.term - x + m)) W
          obtain ⟨y, hyv⟩ : ∃ y, max (-50) (min 50 (s.term - x + m)) = y := ⟨_, rfl⟩
          rw [hyv] at hmo
          have hfy : f s = ⟨s.station, s.far, s.width, y⟩ := by rw [hy, ← hyv, hcl]
          have HLo := Lib.hid hlo
          have HMo := Lib.hid hmo
          have H1 := Lib.hid hfy
          have HW5 := Lib.hid (HX4.out.set_ 3 (.int .i64 y))
          have HL5 := Lib.hid (show Below wr.heap.size wr (World.setCell w4 ⟨wr.heap.size, 3, none⟩ (.int .i64 y)) from HL4.out.setCell (Nat.le_refl _) _)
          have HB5 := Lib.hid (HBr.out.trans (HL5.out.mono hs7))
          have Ho5 := Lib.hid (hown.out.keep HL5.out)
          have hs5 := HB5.out.size
          clear hbo hmv hy hx hlo hmo hfy hcl hyv
          go_wp2_with (first | (go_at_call 78; refine (HLo.out _).mono ?_; rintro e w' ⟨rfl, rfl⟩) | (go_at_call 61; refine (HMo.out _).mono ?_; rintro e w' ⟨rfl, rfl⟩) | (at_builtin; refine wpList_app1N rfl _ _ 43 rfl w.heap.size 37 i0 _ 4 32 Tryd.underlying43 hi hz0 hz1 hz2 rfl (by omega) (by omega) encS encS_len encS_one (.slice B' N.length d') N ⟨s.station, s.far, s.width, y⟩ (World.setCell w4 ⟨wr.heap.size, 3, none⟩ (.int .i64 y)) _ rfl _ rfl Ho5.out w4.heap.size (by simp) rfl (by omega) (by omega) ?_; intro v' w6 hown6 hb6 _))
          have Ho6 := Lib.hid hown6
          have HB6 := Lib.hid (HB5.out.trans hb6)
          clear hown6 hb6
          go_wp2
          go_roundw
          case rel => exact ⟨k + 1, by omega, by go_num, (by rw [Hnx.out, H1.out]; exact Ho6.out), HB6.out⟩
          case measure => simp [intOf]; omega
      · have hke : k = l.length := by omega
        have Ho9 : Hid (Own encS 4 wr w.heap.size 37 u6 (l.map f)) := by
          have hq := hown.out
          rw [hke, Hall.out] at hq
          exact hq
        clear hown
        obtain ⟨B', d', rfl, hcd, hrd⟩ := Own.form encS_len Ho9.out
        rw [List.length_map] at hcd Ho9 ⊢
        clear hrd
        go_wp2
        go_ret2
        exact ⟨_, _, rfl, hcd, Ho9.out, HBr.out⟩

end Go.Proofs.YtjnaigpogloboaaDoor
