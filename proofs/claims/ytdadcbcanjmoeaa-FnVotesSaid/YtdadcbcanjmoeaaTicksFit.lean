/-
  Contracts of TicksThatFit. (Printed by gen_D5.py.)
-/
import Derived.Test.YtdadcbcanjmoeaaFits
namespace Go.Proofs.Ytdadcbcanjmoeaa
set_option linter.unusedVariables false
open Go.RowKit

def okTF (a : Arrival) (x y : Int) : Bool := goodA a && placeB x y && decide (lo a x y ≤ hi a x y)
def TFl (a : Arrival) (x y : Int) : Int := if okTF a x y then lo a x y else 0
def TFh (a : Arrival) (x y : Int) : Int := if okTF a x y then hi a x y else 0

set_option maxRecDepth 100000 in
theorem TicksThatFit_any (a : Arrival) (x y : Int) (w : World) :
    Calls Try.prog 30 #[.agg #[.int .i64 a.id, .int .i64 a.x, .int .i64 a.y, .int .i64 a.tick, .int .i64 a.err], .int .i64 x, .int .i64 y] w fun e w' => e = .returned (.tuple #[.int .i64 (TFl a x y), .int .i64 (TFh a x y), .bool (okTF a x y)]) ∧ Below w.heap.size w w' := by
  unfold TFl TFh okTF
  have HA : Hid (Blk (w.alloc (.cells #[.int .i64 a.id, .int .i64 a.x, .int .i64 a.y, .int .i64 a.tick, .int .i64 a.err] 37)) w.heap.size 37 #[.int .i64 a.id, .int .i64 a.x, .int .i64 a.y, .int .i64 a.tick, .int .i64 a.err]) := Blk.new w _ #[.int .i64 a.id, .int .i64 a.x, .int .i64 a.y, .int .i64 a.tick, .int .i64 a.err]
  have hB0 : Below w.heap.size w (w.alloc (.cells #[.int .i64 a.id, .int .i64 a.x, .int .i64 a.y, .int .i64 a.tick, .int .i64 a.err] 37)) := by (repeat (first | with_reducible exact Below.refl _ _ | with_reducible assumption | with_reducible refine Below.setCell ?_ (by simp <;> omega) _ | with_reducible refine Below.alloc ?_ (by first | omega | (simp <;> omega)) _ | with_reducible refine Below.drew ?_ | with_reducible refine below_drewN ?_ _))
  obtain ⟨a0, a1, a2, a3, a4⟩ := box5 HA.out
  cases hA : goodA a with
  | false =>
    simp only [Bool.false_and, Bool.false_eq_true, if_false]
    go_enter Try.func30, Try.ntmps30
    go_wp2_with (first | (go_at_call 71; refine (isArrival_any a _).mono ?_; rintro e w1 ⟨rfl, hb1⟩; rw [hA]; have hB1 := hB0.trans (hb1.mono hB0.size); clear a0 a1 a2 a3 a4; obtain ⟨a0, a1, a2, a3, a4⟩ := box5 (HA.out.after hb1)) | (go_at_call 63; refine (isPlace_any _ _ _).mono ?_; rintro e w2 ⟨rfl, rfl⟩; rw [hP]) | (go_at_call 79; refine (ticks_any a x y _ hA hP).mono ?_; rintro e w3 ⟨rfl, hb3⟩))
    go_ret3
    exact ⟨rfl, hB1⟩
  | true =>
    cases hP : placeB x y with
    | false =>
      simp only [Bool.and_false, Bool.false_and, Bool.false_eq_true, if_false]
      go_enter Try.func30, Try.ntmps30
      go_wp2_with (first | (go_at_call 71; refine (isArrival_any a _).mono ?_; rintro e w1 ⟨rfl, hb1⟩; rw [hA]; have hB1 := hB0.trans (hb1.mono hB0.size); clear a0 a1 a2 a3 a4; obtain ⟨a0, a1, a2, a3, a4⟩ := box5 (HA.out.after hb1)) | (go_at_call 63; refine (isPlace_any _ _ _).mono ?_; rintro e w2 ⟨rfl, rfl⟩; rw [hP]) | (go_at_call 79; refine (ticks_any a x y _ hA hP).mono ?_; rintro e w3 ⟨rfl, hb3⟩))
      go_ret3
      exact ⟨rfl, hB1⟩
    | true =>
      have hbd := lo_bd hA hP
      cases hL : decide (lo a x y ≤ hi a x y) with
      | true =>
        have hgt : ¬ hi a x y < lo a x y := by simp at hL; omega
        simp only [Bool.and_true, if_true]
        go_enter Try.func30, Try.ntmps30
        go_wp2_with (first | (go_at_call 71; refine (isArrival_any a _).mono ?_; rintro e w1 ⟨rfl, hb1⟩; rw [hA]; have hB1 := hB0.trans (hb1.mono hB0.size); clear a0 a1 a2 a3 a4; obtain ⟨a0, a1, a2, a3, a4⟩ := box5 (HA.out.after hb1)) | (go_at_call 63; refine (isPlace_any _ _ _).mono ?_; rintro e w2 ⟨rfl, rfl⟩; rw [hP]) | (go_at_call 79; refine (ticks_any a x y _ hA hP).mono ?_; rintro e w3 ⟨rfl, hb3⟩))
        go_ret3
        exact ⟨rfl, hB1.trans (hb3.mono hB1.size)⟩
      | false =>
        have hgt : hi a x y < lo a x y := by simp at hL; omega
        simp only [Bool.and_false, Bool.false_eq_true, if_false]
        go_enter Try.func30, Try.ntmps30
        go_wp2_with (first | (go_at_call 71; refine (isArrival_any a _).mono ?_; rintro e w1 ⟨rfl, hb1⟩; rw [hA]; have hB1 := hB0.trans (hb1.mono hB0.size); clear a0 a1 a2 a3 a4; obtain ⟨a0, a1, a2, a3, a4⟩ := box5 (HA.out.after hb1)) | (go_at_call 63; refine (isPlace_any _ _ _).mono ?_; rintro e w2 ⟨rfl, rfl⟩; rw [hP]) | (go_at_call 79; refine (ticks_any a x y _ hA hP).mono ?_; rintro e w3 ⟨rfl, hb3⟩))
        go_ret3
        exact ⟨rfl, hB1.trans (hb3.mono hB1.size)⟩

set_option maxRecDepth 100000 in
theorem sTicksThatFit_any (a : Arrival) (x y : Int) (w : World) :
    Calls Try.prog 29 #[.agg #[.int .i64 a.id, .int .i64 a.x, .int .i64 a.y, .int .i64 a.tick, .int .i64 a.err], .int .i64 x, .int .i64 y] w fun e w' => e = .returned (.tuple #[.int .i64 (TFl a x y), .int .i64 (TFh a x y), .bool (okTF a x y)]) ∧ Below w.heap.size w w' := by
  unfold TFl TFh okTF
  have HA : Hid (Blk (w.alloc (.cells #[.int .i64 a.id, .int .i64 a.x, .int .i64 a.y, .int .i64 a.tick, .int .i64 a.err] 37)) w.heap.size 37 #[.int .i64 a.id, .int .i64 a.x, .int .i64 a.y, .int .i64 a.tick, .int .i64 a.err]) := Blk.new w _ #[.int .i64 a.id, .int .i64 a.x, .int .i64 a.y, .int .i64 a.tick, .int .i64 a.err]
  have hB0 : Below w.heap.size w (w.alloc (.cells #[.int .i64 a.id, .int .i64 a.x, .int .i64 a.y, .int .i64 a.tick, .int .i64 a.err] 37)) := by (repeat (first | with_reducible exact Below.refl _ _ | with_reducible assumption | with_reducible refine Below.setCell ?_ (by simp <;> omega) _ | with_reducible refine Below.alloc ?_ (by first | omega | (simp <;> omega)) _ | with_reducible refine Below.drew ?_ | with_reducible refine below_drewN ?_ _))
  obtain ⟨a0, a1, a2, a3, a4⟩ := box5 HA.out
  cases hA : goodA a with
  | false =>
    simp only [Bool.false_and, Bool.false_eq_true, if_false]
    go_enter Try.func29, Try.ntmps29
    go_wp2_with (first | (go_at_call 68; refine (l10One_any a _).mono ?_; rintro e w1 ⟨rfl, hb1⟩; rw [hA]; have hB1 := hB0.trans (hb1.mono hB0.size); clear a0 a1 a2 a3 a4; obtain ⟨a0, a1, a2, a3, a4⟩ := box5 (HA.out.after hb1)) | (go_at_call 65; refine (l2Place_any _ _ _).mono ?_; rintro e w2 ⟨rfl, rfl⟩; rw [hP]) | (go_at_call 78; refine (l10Ticks_any a x y _ hA hP).mono ?_; rintro e w3 ⟨rfl, hb3⟩))
    go_ret3
    exact ⟨rfl, hB1⟩
  | true =>
    cases hP : placeB x y with
    | false =>
      simp only [Bool.and_false, Bool.false_and, Bool.false_eq_true, if_false]
      go_enter Try.func29, Try.ntmps29
      go_wp2_with (first | (go_at_call 68; refine (l10One_any a _).mono ?_; rintro e w1 ⟨rfl, hb1⟩; rw [hA]; have hB1 := hB0.trans (hb1.mono hB0.size); clear a0 a1 a2 a3 a4; obtain ⟨a0, a1, a2, a3, a4⟩ := box5 (HA.out.after hb1)) | (go_at_call 65; refine (l2Place_any _ _ _).mono ?_; rintro e w2 ⟨rfl, rfl⟩; rw [hP]) | (go_at_call 78; refine (l10Ticks_any a x y _ hA hP).mono ?_; rintro e w3 ⟨rfl, hb3⟩))
      go_ret3
      exact ⟨rfl, hB1⟩
    | true =>
      have hbd := lo_bd hA hP
      cases hL : decide (lo a x y ≤ hi a x y) with
      | true =>
        have hgt : ¬ hi a x y < lo a x y := by simp at hL; omega
        simp only [Bool.and_true, if_true]
        go_enter Try.func29, Try.ntmps29
        go_wp2_with (first | (go_at_call 68; refine (l10One_any a _).mono ?_; rintro e w1 ⟨rfl, hb1⟩; rw [hA]; have hB1 := hB0.trans (hb1.mono hB0.size); clear a0 a1 a2 a3 a4; obtain ⟨a0, a1, a2, a3, a4⟩ := box5 (HA.out.after hb1)) | (go_at_call 65; refine (l2Place_any _ _ _).mono ?_; rintro e w2 ⟨rfl, rfl⟩; rw [hP]) | (go_at_call 78; refine (l10Ticks_any a x y _ hA hP).mono ?_; rintro e w3 ⟨rfl, hb3⟩))
        go_ret3
        exact ⟨rfl, hB1.trans (hb3.mono hB1.size)⟩
      | false =>
        have hgt : hi a x y < lo a x y := by simp at hL; omega
        simp only [Bool.and_false, Bool.false_eq_true, if_false]
        go_enter Try.func29, Try.ntmps29
        go_wp2_with (first | (go_at_call 68; refine (l10One_any a _).mono ?_; rintro e w1 ⟨rfl, hb1⟩; rw [hA]; have hB1 := hB0.trans (hb1.mono hB0.size); clear a0 a1 a2 a3 a4; obtain ⟨a0, a1, a2, a3, a4⟩ := box5 (HA.out.after hb1)) | (go_at_call 65; refine (l2Place_any _ _ _).mono ?_; rintro e w2 ⟨rfl, rfl⟩; rw [hP]) | (go_at_call 78; refine (l10Ticks_any a x y _ hA hP).mono ?_; rintro e w3 ⟨rfl, hb3⟩))
        go_ret3
        exact ⟨rfl, hB1.trans (hb3.mono hB1.size)⟩

end Go.Proofs.Ytdadcbcanjmoeaa
