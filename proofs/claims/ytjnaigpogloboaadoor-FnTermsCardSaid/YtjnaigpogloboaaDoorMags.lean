/-
  Contracts of magnitudes. (Printed by gen_E6.py.)
-/
import Derived.Test.YtjnaigpogloboaaDoorCopI
import Derived.Test.YtjnaigpogloboaaDoorMeMath
import Derived.Test.YtjnaigpogloboaaDoorMagO
import Derived.Deep.QuietTactic
namespace Go.Proofs.YtjnaigpogloboaaDoor
set_option linter.unusedVariables false
open Go.RowKit

set_option maxRecDepth 100000 in
set_option maxHeartbeats 2000000 in
theorem magnitudes_any (A A2 : Option Addr) (c c2 : Nat) (t : List TableRow) (l : List Swing) (w : World) (h : Rd encT 2 w w.heap.size A t) (h2 : Rd encS 4 w w.heap.size A2 l) (hg : goodT t = true) (hs : ∀ s ∈ l, goodW s = true) (hl : l.length ≤ 10) (hP : Pow10 w) :
    Calls Tryd.prog 76 #[.slice A t.length c, .slice A2 l.length c2] w fun e w' => ∃ A' c', e = .returned (.tuple #[.slice A' (magsL t l).length c', .int .i64 (midL (sortL idZ (magsL t l))), .bool (decide (0 < (magsL t l).length))]) ∧ ((magsL t l).length ≤ c' ∧ c' ≤ maxLen) ∧ Own encI 1 w' w.heap.size 3 (.slice A' (magsL t l).length c') (magsL t l) ∧ Below w.heap.size w w' := by
  have hb0 : Below w.heap.size w (w.alloc (.cells #[] 3)) := by (repeat (first | with_reducible exact Below.refl _ _ | with_reducible assumption | with_reducible refine Below.setCell ?_ (by simp <;> omega) _ | with_reducible refine Below.alloc ?_ (by first | omega | (simp <;> omega)) _ | with_reducible refine Below.drew ?_ | with_reducible refine below_drewN ?_ _))
  have Ho := Lib.hid (Own.empty (enc := encI) (k := 1) w w.heap.size 3 (Nat.le_refl _))
  have HMag := Lib.hid (fun (W : World) (s : Swing) (hB : Below w.heap.size w W) (hw : goodW s = true) => magnitude_any A c t s W ((h.below hB).more hB.size) hg hw (hP.after hB (Nat.le_refl _)))
  have HR2 := Lib.hid (fun (W : World) (hB : Below w.heap.size w W) => h2.below hB)
  have Hs := Lib.hid hs
  have hMl := magsL_len t l
  have Hall := Lib.hid (List.take_of_length_le (Nat.le_refl l.length))
  obtain ⟨i0, hi, hz0, hz1, hz2⟩ := info_parts infoI
  obtain ⟨M, hM⟩ : ∃ M, magsL t l = M := ⟨_, rfl⟩
  rw [hM] at hMl ⊢
  have HM := Lib.hid hM
  clear hM hs h h2
  go_enter Tryd.func76, Tryd.ntmps76
  go_wp2
  go_loopw [7, 16] (fun v i wr => ∃ k : Nat, k ≤ l.length ∧ i = .int .i64 k ∧ Hid (Own encI 1 wr w.heap.size 3 v (magsL t (l.take k))) ∧ Hid (Below w.heap.size w wr)) (fun _ i _ => l.length - (intOf i).toNat)
  case atStart => exact ⟨0, Nat.zero_le _, rfl, (by rw [List.take_zero]; exact Ho.out), hb0⟩
  case round =>
    obtain ⟨k, hk, rfl, hown, HBr⟩ := hrel
    by_cases hlt : k < l.length
    · obtain ⟨b, off, hA, hb, c0, c1, c2', c3⟩ := cellsS (HR2.out _ HBr.out) hlt
      have hgs := Hs.out _ (List.getElem_mem hlt)
      have hy := fun h => magsL_yes (t := t) hlt h
      have hn := fun h => magsL_no (t := t) hlt h
      obtain ⟨N, hN⟩ : ∃ N, magsL t (l.take k) = N := ⟨_, rfl⟩
      have hNl : N.length ≤ 10 := by have := magsL_len t (l.take k); rw [hN] at this; rw [List.length_take] at this; omega
      rw [hN] at hown hy hn
      subst hA
      generalize l[k] = s at *
      have Hy := Lib.hid hy
      have Hn := Lib.hid hn
      have hsz := HBr.out.size
      have hbx : Below w.heap.size w (wr.alloc (.cells #[.int .i64 s.station, .int .i64 s.far, .int .i64 s.width, .int .i64 s.term] 37)) := HBr.out.alloc hsz _
      have HCall := Lib.hid (HMag.out _ s hbx hgs)
      have HBx := Lib.hid hbx
      obtain ⟨B', d', rfl, hcd, _⟩ := Own.form encI_len hown.out
      have Hox := Lib.hid (hown.out.alloc (.cells #[.int .i64 s.station, .int .i64 s.far, .int .i64 s.width, .int .i64 s.term] 37))
      have HX := Lib.hid (Blk.new wr 37 #[.int .i64 s.station, .int .i64 s.far, .int .i64 s.width, .int .i64 s.term])
      obtain ⟨z0, z1, z2, z3⟩ := box4 HX.out
      clear hy hn hN hbx
      go_wp2_with fail
      refine HCall.out.mono ?_
      rintro e w2 ⟨rfl, hb2⟩
      have HB2 := Lib.hid (HBx.out.trans (hb2.mono HBx.out.size))
      have Ho2 := Lib.hid (Hox.out.keep hb2)
      have hs2 := HB2.out.size
      clear hb2 z0 z1 z2 z3
      cases hbo : bonOk t s.far with
      | false =>
        have H1 := Lib.hid (Hn.out hbo)
        clear hbo
        go_wp2
        go_roundw
        case rel => exact ⟨k + 1, by omega, by go_num, (by rw [H1.out]; exact Ho2.out), HB2.out⟩
        case measure => simp [intOf]; omega
      | true =>
        have H1 := Lib.hid (Hy.out hbo)
        clear hbo
        generalize magV t s = m at *
        go_wp2_with (at_builtin; refine wpList_app1 rfl _ _ 47 rfl w.heap.size 3 i0 _ 1 8 Tryd.underlying47 hi hz0 hz1 hz2 rfl (by omega) (by omega) encI encI_len encI_one (.slice B' N.length d') N m w2 _ rfl _ rfl Ho2.out rfl (by omega) (by omega) ?_; intro v' w3 hown3 hb3 _)
        have Ho3 := Lib.hid hown3
        have HB3 := Lib.hid (HB2.out.trans hb3)
        clear hown3 hb3
        go_wp2
        go_roundw
        case rel => exact ⟨k + 1, by omega, by go_num, (by rw [H1.out]; exact Ho3.out), HB3.out⟩
        case measure => simp [intOf]; omega
    · have hke : k = l.length := by omega
      have Ho1 : Hid (Own encI 1 wr w.heap.size 3 u7 M) := by
        have hq := hown.out
        rw [hke, Hall.out, HM.out] at hq
        exact hq
      clear hown
      obtain ⟨B', d', rfl, hcd, hrd⟩ := Own.form encI_len Ho1.out
      by_cases h0 : M.length = 0
      · have hnil : M = [] := List.eq_nil_of_length_eq_zero h0
        subst hnil
        go_wp2
        go_ret3
        exact ⟨none, 0, rfl, ⟨Nat.le_refl _, Nat.zero_le _⟩, Own.none_ _ _ _, HBr.out⟩
      · have hpos : 0 < M.length := by omega
        have hz : ((M.length : Int) == 0) = false := beq_eq_false_iff_ne.2 (by omega)
        have hdec : decide (0 < M.length) = true := decide_eq_true hpos
        have Hdec := Lib.hid hdec
        obtain ⟨g, cs, rfl, hgb, _⟩ := Ho1.out.blk hpos
        have HRd := Lib.hid hrd
        have hgl := (Ho1.out.lt g rfl).2
        clear hrd hdec
        go_wp2_with fail
        refine (copyOfI_any g 0 M.length d' wr.heap.size M wr rfl HRd.out (by omega) (Nat.le_refl _)).mono ?_
        rintro e w2 ⟨v2, rfl, hown2, hb2⟩
        obtain ⟨A3, c3, rfl, hcc3, _⟩ := Own.form encI_len hown2
        have HB2 := Lib.hid (HBr.out.trans (hb2.mono HBr.out.size))
        have Ho2 := Lib.hid (Ho1.out.keep hb2)
        have Hc2 := Lib.hid hown2
        have hs2 := hb2.size
        clear hown2 hb2
        go_wp2_with fail
        refine (sortI_any A3 c3 wr.heap.size M w2 Hc2.out hpos (by omega)).mono ?_
        rintro e w3 ⟨rfl, hown3, hg3⟩
        have hsw := HBr.out.size
        have hlt3 := Own.lt Hc2.out
        have HB3 := Lib.hid (HB2.out.grown hg3 HB2.out.size (fun q hq => by have := (hlt3 q hq).1; omega))
        have Ho3 := Lib.hid (Ho2.out.grown hg3 (fun q hq hv => by have h1 := (hlt3 q hq).1; have hgq : g = q := Option.some.inj hv; omega))
        have hSl := sortL_len idZ M
        obtain ⟨S, hS⟩ : ∃ S, sortL idZ M = S := ⟨_, rfl⟩
        rw [hS] at hSl hown3
        have hrs := Own.rd' encI_len hown3
        have hj : (((M.length : Int) - 1) / 2).toNat < S.length := by omega
        obtain ⟨b4, off4, hA4, hb4, x0⟩ := cellsI hrs hj
        have hmid : midL (sortL idZ M) = S[(((M.length : Int) - 1) / 2).toNat] := by
          rw [hS]
          unfold midL
          rw [List.getD_eq_getElem?_getD, show (S.length - 1) / 2 = (((M.length : Int) - 1) / 2).toNat by omega, List.getElem?_eq_getElem hj]; rfl
        generalize S[(((M.length : Int) - 1) / 2).toNat] = y at *
        have Hmid := Lib.hid hmid
        subst hA4
        have hj0 : (0 : Int) ≤ ((M.length : Int) - 1) / 2 := by omega
        have hj1 : ((M.length : Int) - 1) / 2 < (M.length : Int) := by omega
        have hw1 : IntKind.i64.wrap ((M.length : Int) - 1) = (M.length : Int) - 1 := IntWalk.i64_in _ (by omega)
        have ht1 : ((M.length : Int) - 1).tdiv 2 = ((M.length : Int) - 1) / 2 := Int.tdiv_eq_ediv_of_nonneg (by omega)
        have hw2 : IntKind.i64.wrap (((M.length : Int) - 1) / 2) = ((M.length : Int) - 1) / 2 := IntWalk.i64_in _ (by omega)
        clear hrs hown3 hlt3 hg3 hmid hS
        go_wp2_with fail
        go_quiet (fail)
        go_wp2
        go_ret3
        refine ⟨some ⟨g, 0, none⟩, d', ?_, hcd, Ho3.out.keep (below_drewN (Below.refl _ _) _), below_drewN HB3.out _⟩
        rw [Hmid.out, Hdec.out]
        rfl

end Go.Proofs.YtjnaigpogloboaaDoor
