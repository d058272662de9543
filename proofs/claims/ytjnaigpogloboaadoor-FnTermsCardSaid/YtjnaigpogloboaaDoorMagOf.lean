/-
  Contracts of MagnitudeOf. (Printed by gen_E5.py.)
-/
import Derived.Test.YtjnaigpogloboaaDoorMagO
namespace Go.Proofs.YtjnaigpogloboaaDoor
set_option linter.unusedVariables false
open Go.RowKit

set_option maxHeartbeats 1000000 in
theorem MagnitudeOf_any (A : Option Addr) (c : Nat) (t : List TableRow) (s : Swing) (w : World) (h : Rd encT 2 w w.heap.size A t) (hl : t.length ≤ 1048576) (hP : Pow10 w) :
    Calls Tryd.prog 23 #[.slice A t.length c, .agg #[.int .i64 s.station, .int .i64 s.far, .int .i64 s.width, .int .i64 s.term]] w fun e w' => e = .returned (.tuple #[.int .i64 (MOv t s), .bool (MOok t s)]) ∧ Below w.heap.size w w' := by
  have hB0 : Below w.heap.size w (w.alloc (.cells #[.int .i64 s.station, .int .i64 s.far, .int .i64 s.width, .int .i64 s.term] 37)) := by (repeat (first | with_reducible exact Below.refl _ _ | with_reducible assumption | with_reducible refine Below.setCell ?_ (by simp <;> omega) _ | with_reducible refine Below.alloc ?_ (by first | omega | (simp <;> omega)) _ | with_reducible refine Below.drew ?_ | with_reducible refine below_drewN ?_ _))
  have HX0 := Lib.hid (Blk.new w 37 #[.int .i64 s.station, .int .i64 s.far, .int .i64 s.width, .int .i64 s.term])
  have hr0 := (h.below hB0).more hB0.size
  have HT := Lib.hid (IsTable_any A c t _ hr0 hl)
  unfold MOok MOv askMO
  cases hg : goodT t with
  | false =>
    simp only [Bool.false_and, Bool.false_eq_true, if_false]
    go_enter Tryd.func23, Tryd.ntmps23
    go_wp2_with fail
    refine HT.out.mono ?_
    rintro e w1 ⟨rfl, hb1⟩
    rw [hg]
    go_wp2
    go_ret2
    exact ⟨rfl, hB0.trans (hb1.mono hB0.size)⟩
  | true =>
    cases hs : goodW s with
    | false =>
      simp only [Bool.and_false, Bool.false_and, Bool.false_eq_true, if_false]
      go_enter Tryd.func23, Tryd.ntmps23
      go_wp2_with fail
      refine HT.out.mono ?_
      rintro e w1 ⟨rfl, hb1⟩
      rw [hg]
      have HB1 := Lib.hid (hB0.trans (hb1.mono hB0.size))
      obtain ⟨z0, z1, z2, z3⟩ := box4 (HX0.out.after hb1)
      clear hb1
      go_wp2_with fail
      refine (isSwing_any s _).mono ?_
      rintro e w2 ⟨rfl, hb2⟩
      rw [hs]
      clear z0 z1 z2 z3
      go_wp2
      go_ret2
      exact ⟨rfl, HB1.out.trans (hb2.mono HB1.out.size)⟩
    | true =>
      simp only [Bool.true_and, if_true]
      have HM := Lib.hid (fun W (hr : Rd encT 2 W W.heap.size A t) (hP : Pow10 W) => magnitude_any A c t s W hr hg hs hP)
      unfold magO
      generalize magV t s = m at *
      generalize bonOk t s.far = k at *
      go_enter Tryd.func23, Tryd.ntmps23
      go_wp2_with fail
      refine HT.out.mono ?_
      rintro e w1 ⟨rfl, hb1⟩
      rw [hg]
      have HB1 := Lib.hid (hB0.trans (hb1.mono hB0.size))
      have HX1 := Lib.hid (HX0.out.after hb1)
      obtain ⟨z0, z1, z2, z3⟩ := box4 HX1.out
      clear hb1
      go_wp2_with fail
      refine (isSwing_any s _).mono ?_
      rintro e w2 ⟨rfl, hb2⟩
      rw [hs]
      have HB2 := Lib.hid (HB1.out.trans (hb2.mono HB1.out.size))
      have HX2 := Lib.hid (HX1.out.after hb2)
      clear z0 z1 z2 z3 hb2
      obtain ⟨z0, z1, z2, z3⟩ := box4 HX2.out
      go_wp2_with fail
      refine (HM.out _ ((h.below HB2.out).more HB2.out.size) (hP.after HB2.out (Nat.le_refl _))).mono ?_
      rintro e w3 ⟨rfl, hb3⟩
      clear z0 z1 z2 z3
      cases k with
      | false =>
        go_wp2
        go_ret2
        exact ⟨rfl, HB2.out.trans (hb3.mono HB2.out.size)⟩
      | true =>
        go_wp2
        go_ret2
        exact ⟨rfl, HB2.out.trans (hb3.mono HB2.out.size)⟩

set_option maxHeartbeats 1000000 in
theorem sMagnitudeOf_any (A : Option Addr) (c : Nat) (t : List TableRow) (s : Swing) (w : World) (h : Rd encT 2 w w.heap.size A t) (hl : t.length ≤ 1048576) :
    Calls Tryd.prog 21 #[.slice A t.length c, .agg #[.int .i64 s.station, .int .i64 s.far, .int .i64 s.width, .int .i64 s.term]] w fun e w' => e = .returned (.tuple #[.int .i64 (MOv t s), .bool (MOok t s)]) ∧ Below w.heap.size w w' := by
  have hB0 : Below w.heap.size w (w.alloc (.cells #[.int .i64 s.station, .int .i64 s.far, .int .i64 s.width, .int .i64 s.term] 37)) := by (repeat (first | with_reducible exact Below.refl _ _ | with_reducible assumption | with_reducible refine Below.setCell ?_ (by simp <;> omega) _ | with_reducible refine Below.alloc ?_ (by first | omega | (simp <;> omega)) _ | with_reducible refine Below.drew ?_ | with_reducible refine below_drewN ?_ _))
  have HX0 := Lib.hid (Blk.new w 37 #[.int .i64 s.station, .int .i64 s.far, .int .i64 s.width, .int .i64 s.term])
  have hr0 := (h.below hB0).more hB0.size
  have HT := Lib.hid (l11Table_any A c t _ hr0 hl)
  unfold MOok MOv askMO
  cases hg : goodT t with
  | false =>
    simp only [Bool.false_and, Bool.false_eq_true, if_false]
    go_enter Tryd.func21, Tryd.ntmps21
    go_wp2_with fail
    refine HT.out.mono ?_
    rintro e w1 ⟨rfl, hb1⟩
    rw [hg]
    go_wp2
    go_ret2
    exact ⟨rfl, hB0.trans (hb1.mono hB0.size)⟩
  | true =>
    cases hs : goodW s with
    | false =>
      simp only [Bool.and_false, Bool.false_and, Bool.false_eq_true, if_false]
      go_enter Tryd.func21, Tryd.ntmps21
      go_wp2_with fail
      refine HT.out.mono ?_
      rintro e w1 ⟨rfl, hb1⟩
      rw [hg]
      have HB1 := Lib.hid (hB0.trans (hb1.mono hB0.size))
      obtain ⟨z0, z1, z2, z3⟩ := box4 (HX0.out.after hb1)
      clear hb1
      go_wp2_with fail
      refine (l11Swing_any s _).mono ?_
      rintro e w2 ⟨rfl, hb2⟩
      rw [hs]
      clear z0 z1 z2 z3
      go_wp2
      go_ret2
      exact ⟨rfl, HB1.out.trans (hb2.mono HB1.out.size)⟩
    | true =>
      simp only [Bool.true_and, if_true]
      have HM := Lib.hid (fun W (hr : Rd encT 2 W W.heap.size A t) => l11Magnitude_any A c t s W hr hg hs)
      generalize magO t s = m at *
      generalize bonOk t s.far = k at *
      go_enter Tryd.func21, Tryd.ntmps21
      go_wp2_with fail
      refine HT.out.mono ?_
      rintro e w1 ⟨rfl, hb1⟩
      rw [hg]
      have HB1 := Lib.hid (hB0.trans (hb1.mono hB0.size))
      have HX1 := Lib.hid (HX0.out.after hb1)
      obtain ⟨z0, z1, z2, z3⟩ := box4 HX1.out
      clear hb1
      go_wp2_with fail
      refine (l11Swing_any s _).mono ?_
      rintro e w2 ⟨rfl, hb2⟩
      rw [hs]
      have HB2 := Lib.hid (HB1.out.trans (hb2.mono HB1.out.size))
      have HX2 := Lib.hid (HX1.out.after hb2)
      clear z0 z1 z2 z3 hb2
      obtain ⟨z0, z1, z2, z3⟩ := box4 HX2.out
      go_wp2_with fail
      refine (HM.out _ ((h.below HB2.out).more HB2.out.size)).mono ?_
      rintro e w3 ⟨rfl, hb3⟩
      clear z0 z1 z2 z3
      go_wp2
      go_ret2
      exact ⟨rfl, HB2.out.trans (hb3.mono HB2.out.size)⟩

end Go.Proofs.YtjnaigpogloboaaDoor
