/-
  Contract of the reference's Residuals. (Printed by gen_E8.py.)
-/
import Derived.Test.YtjnaigpogloboaaDoorMedS
namespace Go.Proofs.YtjnaigpogloboaaDoor
set_option linter.unusedVariables false
open Go.RowKit

theorem magsL_map (t : List TableRow) (l : List Swing) (m : Int) (k : Nat) (hk : k < l.length) : (bonOk t l[k].far = true → (magsL t (l.take (k + 1))).map (fun x => x - m) = (magsL t (l.take k)).map (fun x => x - m) ++ [magV t l[k] - m]) ∧
    (bonOk t l[k].far = false → (magsL t (l.take (k + 1))).map (fun x => x - m) = (magsL t (l.take k)).map (fun x => x - m)) := by
  constructor
  · intro h; rw [magsL_yes hk h, List.map_append]; rfl
  · intro h; rw [magsL_no hk h]

set_option maxRecDepth 100000 in
set_option maxHeartbeats 2000000 in
theorem sResiduals_any (A A2 : Option Addr) (c c2 : Nat) (t : List TableRow) (l : List Swing) (w : World) (h : Rd encT 2 w w.heap.size A t) (h2 : Rd encS 4 w w.heap.size A2 l) (hl : t.length ≤ 1048576) (hl2 : l.length ≤ 1048576) :
    Calls Tryd.prog 29 #[.slice A t.length c, .slice A2 l.length c2] w fun e w' => ∃ A' c', e = .returned (.tuple #[.slice A' (resL t l).length c', .bool (hasMM t l)]) ∧ ((resL t l).length ≤ c' ∧ c' ≤ maxLen) ∧ Own encI 1 w' w.heap.size 3 (.slice A' (resL t l).length c') (resL t l) ∧ Below w.heap.size w w' := by
  have hb0 : Below w.heap.size w (w.alloc (.cells #[] 3)) := by (repeat (first | with_reducible exact Below.refl _ _ | with_reducible assumption | with_reducible refine Below.setCell ?_ (by simp <;> omega) _ | with_reducible refine Below.alloc ?_ (by first | omega | (simp <;> omega)) _ | with_reducible refine Below.drew ?_ | with_reducible refine below_drewN ?_ _))
  have Ho0 := Lib.hid (Own.empty (enc := encI) (k := 1) w w.heap.size 3 (Nat.le_refl _))
  have HMed := Lib.hid (sMedianMagnitude_any A A2 c c2 t l _ ((h.below hb0).more hb0.size) ((h2.below hb0).more hb0.size) hl hl2)
  cases hk : hasMM t l with
  | false =>
    have hm0 : resL t l = [] := by unfold resL; rw [hk]; rfl
    rw [hm0]
    rw [hk] at HMed
    generalize midM t l = m at *
    clear hm0 hk
    go_enter Tryd.func29, Tryd.ntmps29
    go_wp2_with fail
    refine HMed.out.mono ?_
    rintro e w1 ⟨rfl, hb1⟩
    have Ho1 := Lib.hid (Ho0.out.keep hb1)
    go_wp2
    go_ret2
    exact ⟨_, _, rfl, ⟨Nat.le_refl _, Nat.zero_le _⟩, Ho1.out, hb0.trans (hb1.mono hb0.size)⟩
  | true =>
    obtain ⟨hka, hpos⟩ := hasMM_iff hk
    obtain ⟨hg, hs, hl10, hgs⟩ := askMM_iff hka
    have hmb := midM_bd t l
    have hres : resL t l = (magsL t l).map (fun x => x - midM t l) := by unfold resL; rw [if_pos hk]
    rw [hres, List.length_map]
    rw [hk] at HMed
    have Hmap := Lib.hid (fun k hk => magsL_map t l (midM t l) k hk)
    generalize midM t l = m at *
    have HMag := Lib.hid (fun (W : World) (s : Swing) (hB : Below w.heap.size w W) (hw : goodW s = true) => l11Magnitude_any A c t s W ((h.below hB).more hB.size) hg hw)
    have HR2 := Lib.hid (fun (W : World) (hB : Below w.heap.size w W) => h2.below hB)
    have Hs := Lib.hid hgs
    have Hall := Lib.hid (List.take_of_length_le (Nat.le_refl l.length))
    obtain ⟨i0, hi, hz0, hz1, hz2⟩ := info_parts infoI
    obtain ⟨M, hM⟩ : ∃ M, magsL t l = M := ⟨_, rfl⟩
    rw [hM]
    have HM := Lib.hid hM
    clear hM hgs hres hk hpos
    go_enter Tryd.func29, Tryd.ntmps29
    go_wp2_with fail
    refine HMed.out.mono ?_
    rintro e w1 ⟨rfl, hb1⟩
    have Ho1 := Lib.hid (Ho0.out.keep hb1)
    have HB1 := Lib.hid (hb0.trans (hb1.mono hb0.size))
    clear hb1
    go_wp2
    go_loopw [6, 9] (fun v i wr => ∃ k : Nat, k ≤ l.length ∧ i = .int .i64 k ∧ Hid (Own encI 1 wr w.heap.size 3 v ((magsL t (l.take k)).map (fun x => x - m))) ∧ Hid (Below w.heap.size w wr)) (fun _ i _ => l.length - (intOf i).toNat)
    case atStart => exact ⟨0, Nat.zero_le _, rfl, (by rw [List.take_zero]; exact Ho1.out), HB1.out⟩
    case round =>
      obtain ⟨k, hkl, rfl, hown, HBr⟩ := hrel
      by_cases hlt : k < l.length
      · have hgx := Hs.out _ (List.getElem_mem hlt)
        obtain ⟨hyes, hno⟩ := Hmap.out k hlt
        obtain ⟨b, off, hA, hb, c0, c1, c2', c3⟩ := cellsS (HR2.out _ HBr.out) hlt
        subst hA
        obtain ⟨N, hN⟩ : ∃ N, (magsL t (l.take k)).map (fun x => x - m) = N := ⟨_, rfl⟩
        have hNl : N.length ≤ 10 := by rw [← hN, List.length_map]; have := magsL_len t (l.take k); rw [List.length_take] at this; omega
        rw [hN] at hown hyes hno
        generalize l[k] = s at *
        have Hyes := Lib.hid hyes
        have Hno := Lib.hid hno
        have hs7 := HBr.out.size
        have HCall := Lib.hid (HMag.out wr s HBr.out hgx)
        obtain ⟨B', d', rfl, hcd, _⟩ := Own.form encI_len hown.out
        clear hyes hno hN
        go_wp2_with fail
        refine HCall.out.mono ?_
        rintro e w4 ⟨rfl, hb4⟩
        have HB4 := Lib.hid (HBr.out.trans (hb4.mono hs7))
        have Ho4 := Lib.hid (hown.out.keep hb4)
        have hs4 := HB4.out.size
        clear hb4 hown c0 c1 c2' c3
        cases hbo : bonOk t s.far with
        | false =>
          have Hn := Lib.hid (Hno.out hbo)
          clear hbo
          go_wp2
          go_roundw
          case rel => exact ⟨k + 1, by omega, by go_num, (by rw [Hn.out]; exact Ho4.out), HB4.out⟩
          case measure => simp [intOf]; omega
        | true =>
          have hmv : magO t s = magV t s := by unfold magO; rw [hbo]; rfl
          rw [hmv]
          have Hy := Lib.hid (Hyes.out hbo)
          have hvb := magV_bd hg hgx
          generalize magV t s = x at *
          clear hbo hmv
          go_wp2_with (at_builtin; refine wpList_app1 rfl _ _ 47 rfl w.heap.size 3 i0 _ 1 8 Tryd.underlying47 hi hz0 hz1 hz2 rfl (by omega) (by omega) encI encI_len encI_one (.slice B' N.length d') N (x - m) w4 _ rfl _ rfl Ho4.out rfl (by omega) (by omega) ?_; intro v' w5 hown5 hb5 _)
          have Ho5 := Lib.hid hown5
          have HB5 := Lib.hid (HB4.out.trans hb5)
          clear hown5 hb5
          go_wp2
          go_roundw
          case rel => exact ⟨k + 1, by omega, by go_num, (by rw [Hy.out]; exact Ho5.out), HB5.out⟩
          case measure => simp [intOf]; omega
      · have hke : k = l.length := by omega
        have Ho1 : Hid (Own encI 1 wr w.heap.size 3 u6 (M.map fun x => x - m)) := by
          have hq := hown.out
          rw [hke, Hall.out, HM.out] at hq
          exact hq
        clear hown
        obtain ⟨B', d', rfl, hcd, hrd⟩ := Own.form encI_len Ho1.out
        rw [List.length_map] at hcd Ho1 ⊢
        clear hrd
        go_wp2
        go_ret2
        exact ⟨_, _, rfl, hcd, Ho1.out, HBr.out⟩

end Go.Proofs.YtjnaigpogloboaaDoor
