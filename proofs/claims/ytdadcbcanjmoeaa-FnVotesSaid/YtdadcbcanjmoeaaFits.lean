/-
  Contracts of origins that fit. (Printed by gen_D4.py.)
-/
import Derived.Test.YtdadcbcanjmoeaaTicks
namespace Go.Proofs.Ytdadcbcanjmoeaa
set_option linter.unusedVariables false
open Go.RowKit

set_option maxRecDepth 100000 in
theorem fits_any (a : Arrival) (o : Origin) (w : World) (ha : goodA a = true) (ho : goodO o = true) :
    Calls Try.prog 73 #[.agg #[.int .i64 a.id, .int .i64 a.x, .int .i64 a.y, .int .i64 a.tick, .int .i64 a.err], .agg #[.int .i64 o.x, .int .i64 o.y, .int .i64 o.tick]] w fun e w' => e = .returned (.bool (fitV a o)) ∧ Below w.heap.size w w' := by
  have hp : placeB o.x o.y = true := by simp only [goodO, Bool.and_eq_true] at ho; exact ho.1
  rw [fitV_eq]
  have Hc := Lib.hid (fun W => ticks_any a o.x o.y W ha hp)
  clear ha ho hp
  generalize lo a o.x o.y = u at *
  generalize hi a o.x o.y = v at *
  have HA : Hid (Blk ((w.alloc (.cells #[.int .i64 a.id, .int .i64 a.x, .int .i64 a.y, .int .i64 a.tick, .int .i64 a.err] 37)).alloc (.cells #[.int .i64 o.x, .int .i64 o.y, .int .i64 o.tick] 39)) w.heap.size 37 #[.int .i64 a.id, .int .i64 a.x, .int .i64 a.y, .int .i64 a.tick, .int .i64 a.err]) := (Blk.new w _ #[.int .i64 a.id, .int .i64 a.x, .int .i64 a.y, .int .i64 a.tick, .int .i64 a.err]).alloc _
  have HO : Hid (Blk ((w.alloc (.cells #[.int .i64 a.id, .int .i64 a.x, .int .i64 a.y, .int .i64 a.tick, .int .i64 a.err] 37)).alloc (.cells #[.int .i64 o.x, .int .i64 o.y, .int .i64 o.tick] 39)) (w.heap.size + 1) 39 #[.int .i64 o.x, .int .i64 o.y, .int .i64 o.tick]) := by have hq := Blk.new (w.alloc (.cells #[.int .i64 a.id, .int .i64 a.x, .int .i64 a.y, .int .i64 a.tick, .int .i64 a.err] 37)) 39 #[.int .i64 o.x, .int .i64 o.y, .int .i64 o.tick]; simp at hq; exact hq
  have hB0 : Below w.heap.size w ((w.alloc (.cells #[.int .i64 a.id, .int .i64 a.x, .int .i64 a.y, .int .i64 a.tick, .int .i64 a.err] 37)).alloc (.cells #[.int .i64 o.x, .int .i64 o.y, .int .i64 o.tick] 39)) := by (repeat (first | with_reducible exact Below.refl _ _ | with_reducible assumption | with_reducible refine Below.setCell ?_ (by simp <;> omega) _ | with_reducible refine Below.alloc ?_ (by first | omega | (simp <;> omega)) _ | with_reducible refine Below.drew ?_ | with_reducible refine below_drewN ?_ _))
  obtain ⟨a0, a1, a2, a3, a4⟩ := box5 HA.out
  obtain ⟨o0, o1, o2⟩ := box3 HO.out
  go_enter Try.func73, Try.ntmps73
  go_wp2_with fail
  refine (Hc.out _).mono ?_
  rintro e w1 ⟨rfl, hb1⟩
  have HA1 := Lib.hid (HA.out.after hb1)
  have HO1 := Lib.hid (HO.out.after hb1)
  have hB1 := hB0.trans (hb1.mono hB0.size)
  clear a0 a1 a2 a3 a4 o0 o1 o2
  obtain ⟨a0, a1, a2, a3, a4⟩ := box5 HA1.out
  obtain ⟨o0, o1, o2⟩ := box3 HO1.out
  go_wp2_with (go_at_call 101; refine (in_any _ _ _ _).mono ?_; rintro e w' ⟨rfl, rfl⟩)
  go_ret
  exact ⟨rfl, hB1⟩

set_option maxRecDepth 100000 in
set_option maxHeartbeats 1000000 in
theorem l10Fits_any (a : Arrival) (o : Origin) (w : World) (ha : goodA a = true) (ho : goodO o = true) :
    Calls Try.prog 70 #[.agg #[.int .i64 a.id, .int .i64 a.x, .int .i64 a.y, .int .i64 a.tick, .int .i64 a.err], .agg #[.int .i64 o.x, .int .i64 o.y, .int .i64 o.tick]] w fun e w' => e = .returned (.bool (fitV a o)) ∧ Below w.heap.size w w' := by
  obtain ⟨_, ⟨hx, hy⟩, ht, he⟩ := goodA_iff.1 ha
  obtain ⟨⟨hu, hv⟩, hto⟩ := goodO_iff.1 ho
  have hS := s400_bd hx hy hu hv
  have hval : fitV a o = fitS a.x a.y a.tick a.err o.x o.y o.tick := (fit_eq hS.1 hto.1 hto.2).symm
  rw [hval]
  have hq := fun W => l10Square_any a.x a.y o.x o.y W hx hy hu hv
  have HA : Hid (Blk ((w.alloc (.cells #[.int .i64 a.id, .int .i64 a.x, .int .i64 a.y, .int .i64 a.tick, .int .i64 a.err] 37)).alloc (.cells #[.int .i64 o.x, .int .i64 o.y, .int .i64 o.tick] 39)) w.heap.size 37 #[.int .i64 a.id, .int .i64 a.x, .int .i64 a.y, .int .i64 a.tick, .int .i64 a.err]) := (Blk.new w _ #[.int .i64 a.id, .int .i64 a.x, .int .i64 a.y, .int .i64 a.tick, .int .i64 a.err]).alloc _
  have HO : Hid (Blk ((w.alloc (.cells #[.int .i64 a.id, .int .i64 a.x, .int .i64 a.y, .int .i64 a.tick, .int .i64 a.err] 37)).alloc (.cells #[.int .i64 o.x, .int .i64 o.y, .int .i64 o.tick] 39)) (w.heap.size + 1) 39 #[.int .i64 o.x, .int .i64 o.y, .int .i64 o.tick]) := by have hq := Blk.new (w.alloc (.cells #[.int .i64 a.id, .int .i64 a.x, .int .i64 a.y, .int .i64 a.tick, .int .i64 a.err] 37)) 39 #[.int .i64 o.x, .int .i64 o.y, .int .i64 o.tick]; simp at hq; exact hq
  have hB0 : Below w.heap.size w ((w.alloc (.cells #[.int .i64 a.id, .int .i64 a.x, .int .i64 a.y, .int .i64 a.tick, .int .i64 a.err] 37)).alloc (.cells #[.int .i64 o.x, .int .i64 o.y, .int .i64 o.tick] 39)) := by (repeat (first | with_reducible exact Below.refl _ _ | with_reducible assumption | with_reducible refine Below.setCell ?_ (by simp <;> omega) _ | with_reducible refine Below.alloc ?_ (by first | omega | (simp <;> omega)) _ | with_reducible refine Below.drew ?_ | with_reducible refine below_drewN ?_ _))
  obtain ⟨a0, a1, a2, a3, a4⟩ := box5 HA.out
  obtain ⟨o0, o1, o2⟩ := box3 HO.out
  clear ha ho hval
  obtain ⟨id, ax, ay, tk, er⟩ := a
  obtain ⟨ox, oy, ot⟩ := o
  unfold fitS
  simp only at *
  generalize s400 ax ay ox oy = n at *
  have Hq := Lib.hid hq
  clear hq
  have g1 : -2000000 ≤ tk - er - ot ∧ tk - er - ot ≤ 2000000 := by omega
  have g2 : -2000000 ≤ tk + er - ot ∧ tk + er - ot ≤ 2000000 := by omega
  have sq : ∀ d : Int, -2000000 ≤ d ∧ d ≤ 2000000 → 0 ≤ d * d ∧ d * d ≤ 4000000000000 := by
    intro d hd
    rcases Int.le_total 0 d with h | h
    · exact ⟨Int.mul_nonneg h h, Int.mul_le_mul hd.2 hd.2 h (by omega)⟩
    · have e : d * d = (-d) * (-d) := by rw [Int.neg_mul_neg]
      rw [e]
      exact ⟨Int.mul_nonneg (by omega) (by omega), Int.mul_le_mul (show -d ≤ 2000000 by omega) (show -d ≤ 2000000 by omega) (by omega) (by omega)⟩
  have s1 := sq _ g1
  have s2 := sq _ g2
  clear sq
  go_enter Try.func70, Try.ntmps70
  go_wp2_with (go_at_call 108; refine (Hq.out _).mono ?_; rintro e w' ⟨rfl, rfl⟩)
  go_quiet (fail)
  go_wp2
  all_goals
    go_ret
    refine ⟨ret_bool ?_, below_drewN hB0 _⟩
    clear a0 a1 a2 a3 a4 o0 o1 o2 HA HO hB0 Hq
    rw [Bool.eq_iff_iff]
    simp only [Bool.and_eq_true, Bool.or_eq_true, decide_eq_true_eq, Bool.false_eq_true, true_iff, false_iff]
    omega

def okDF (a : Arrival) (o : Origin) : Bool := goodA a && goodO o
def DFv (a : Arrival) (o : Origin) : Bool := okDF a o && fitV a o

set_option maxRecDepth 100000 in
theorem DoesFit_any (a : Arrival) (o : Origin) (w : World) :
    Calls Try.prog 23 #[.agg #[.int .i64 a.id, .int .i64 a.x, .int .i64 a.y, .int .i64 a.tick, .int .i64 a.err], .agg #[.int .i64 o.x, .int .i64 o.y, .int .i64 o.tick]] w fun e w' => e = .returned (.tuple #[.bool (DFv a o), .bool (okDF a o)]) ∧ Below w.heap.size w w' := by
  unfold DFv okDF
  have HA : Hid (Blk ((w.alloc (.cells #[.int .i64 a.id, .int .i64 a.x, .int .i64 a.y, .int .i64 a.tick, .int .i64 a.err] 37)).alloc (.cells #[.int .i64 o.x, .int .i64 o.y, .int .i64 o.tick] 39)) w.heap.size 37 #[.int .i64 a.id, .int .i64 a.x, .int .i64 a.y, .int .i64 a.tick, .int .i64 a.err]) := (Blk.new w _ #[.int .i64 a.id, .int .i64 a.x, .int .i64 a.y, .int .i64 a.tick, .int .i64 a.err]).alloc _
  have HO : Hid (Blk ((w.alloc (.cells #[.int .i64 a.id, .int .i64 a.x, .int .i64 a.y, .int .i64 a.tick, .int .i64 a.err] 37)).alloc (.cells #[.int .i64 o.x, .int .i64 o.y, .int .i64 o.tick] 39)) (w.heap.size + 1) 39 #[.int .i64 o.x, .int .i64 o.y, .int .i64 o.tick]) := by have hq := Blk.new (w.alloc (.cells #[.int .i64 a.id, .int .i64 a.x, .int .i64 a.y, .int .i64 a.tick, .int .i64 a.err] 37)) 39 #[.int .i64 o.x, .int .i64 o.y, .int .i64 o.tick]; simp at hq; exact hq
  have hB0 : Below w.heap.size w ((w.alloc (.cells #[.int .i64 a.id, .int .i64 a.x, .int .i64 a.y, .int .i64 a.tick, .int .i64 a.err] 37)).alloc (.cells #[.int .i64 o.x, .int .i64 o.y, .int .i64 o.tick] 39)) := by (repeat (first | with_reducible exact Below.refl _ _ | with_reducible assumption | with_reducible refine Below.setCell ?_ (by simp <;> omega) _ | with_reducible refine Below.alloc ?_ (by first | omega | (simp <;> omega)) _ | with_reducible refine Below.drew ?_ | with_reducible refine below_drewN ?_ _))
  obtain ⟨a0, a1, a2, a3, a4⟩ := box5 HA.out
  obtain ⟨o0, o1, o2⟩ := box3 HO.out
  cases hA : goodA a with
  | false =>
    simp only [Bool.false_and]
    go_enter Try.func23, Try.ntmps23
    go_wp2_with (first | (go_at_call 71; refine (isArrival_any a _).mono ?_; rintro e w1 ⟨rfl, hb1⟩; rw [hA]; have HA1 := Lib.hid (HA.out.after hb1); have HO1 := Lib.hid (HO.out.after hb1); have hB1 := hB0.trans (hb1.mono hB0.size); clear a0 a1 a2 a3 a4 o0 o1 o2; obtain ⟨a0, a1, a2, a3, a4⟩ := box5 HA1.out; obtain ⟨o0, o1, o2⟩ := box3 HO1.out) | (go_at_call 72; refine (isOrigin_any o _).mono ?_; rintro e w2 ⟨rfl, hb2⟩; rw [hO]; have HA2 := Lib.hid (HA1.out.after hb2); have HO2 := Lib.hid (HO1.out.after hb2); have hB2 := hB1.trans (hb2.mono hB1.size); clear a0 a1 a2 a3 a4 o0 o1 o2; obtain ⟨a0, a1, a2, a3, a4⟩ := box5 HA2.out; obtain ⟨o0, o1, o2⟩ := box3 HO2.out) | (go_at_call 73; refine (fits_any a o _ hA hO).mono ?_; rintro e w3 ⟨rfl, hb3⟩))
    go_ret2
    exact ⟨rfl, hB1⟩
  | true =>
    cases hO : goodO o with
    | false =>
      simp only [Bool.and_false, Bool.false_and]
      go_enter Try.func23, Try.ntmps23
      go_wp2_with (first | (go_at_call 71; refine (isArrival_any a _).mono ?_; rintro e w1 ⟨rfl, hb1⟩; rw [hA]; have HA1 := Lib.hid (HA.out.after hb1); have HO1 := Lib.hid (HO.out.after hb1); have hB1 := hB0.trans (hb1.mono hB0.size); clear a0 a1 a2 a3 a4 o0 o1 o2; obtain ⟨a0, a1, a2, a3, a4⟩ := box5 HA1.out; obtain ⟨o0, o1, o2⟩ := box3 HO1.out) | (go_at_call 72; refine (isOrigin_any o _).mono ?_; rintro e w2 ⟨rfl, hb2⟩; rw [hO]; have HA2 := Lib.hid (HA1.out.after hb2); have HO2 := Lib.hid (HO1.out.after hb2); have hB2 := hB1.trans (hb2.mono hB1.size); clear a0 a1 a2 a3 a4 o0 o1 o2; obtain ⟨a0, a1, a2, a3, a4⟩ := box5 HA2.out; obtain ⟨o0, o1, o2⟩ := box3 HO2.out) | (go_at_call 73; refine (fits_any a o _ hA hO).mono ?_; rintro e w3 ⟨rfl, hb3⟩))
      go_ret2
      exact ⟨rfl, hB2⟩
    | true =>
      simp only [Bool.true_and]
      go_enter Try.func23, Try.ntmps23
      go_wp2_with (first | (go_at_call 71; refine (isArrival_any a _).mono ?_; rintro e w1 ⟨rfl, hb1⟩; rw [hA]; have HA1 := Lib.hid (HA.out.after hb1); have HO1 := Lib.hid (HO.out.after hb1); have hB1 := hB0.trans (hb1.mono hB0.size); clear a0 a1 a2 a3 a4 o0 o1 o2; obtain ⟨a0, a1, a2, a3, a4⟩ := box5 HA1.out; obtain ⟨o0, o1, o2⟩ := box3 HO1.out) | (go_at_call 72; refine (isOrigin_any o _).mono ?_; rintro e w2 ⟨rfl, hb2⟩; rw [hO]; have HA2 := Lib.hid (HA1.out.after hb2); have HO2 := Lib.hid (HO1.out.after hb2); have hB2 := hB1.trans (hb2.mono hB1.size); clear a0 a1 a2 a3 a4 o0 o1 o2; obtain ⟨a0, a1, a2, a3, a4⟩ := box5 HA2.out; obtain ⟨o0, o1, o2⟩ := box3 HO2.out) | (go_at_call 73; refine (fits_any a o _ hA hO).mono ?_; rintro e w3 ⟨rfl, hb3⟩))
      go_ret2
      exact ⟨rfl, hB2.trans (hb3.mono hB2.size)⟩

set_option maxRecDepth 100000 in
theorem sDoesFit_any (a : Arrival) (o : Origin) (w : World) :
    Calls Try.prog 20 #[.agg #[.int .i64 a.id, .int .i64 a.x, .int .i64 a.y, .int .i64 a.tick, .int .i64 a.err], .agg #[.int .i64 o.x, .int .i64 o.y, .int .i64 o.tick]] w fun e w' => e = .returned (.tuple #[.bool (DFv a o), .bool (okDF a o)]) ∧ Below w.heap.size w w' := by
  unfold DFv okDF
  have HA : Hid (Blk ((w.alloc (.cells #[.int .i64 a.id, .int .i64 a.x, .int .i64 a.y, .int .i64 a.tick, .int .i64 a.err] 37)).alloc (.cells #[.int .i64 o.x, .int .i64 o.y, .int .i64 o.tick] 39)) w.heap.size 37 #[.int .i64 a.id, .int .i64 a.x, .int .i64 a.y, .int .i64 a.tick, .int .i64 a.err]) := (Blk.new w _ #[.int .i64 a.id, .int .i64 a.x, .int .i64 a.y, .int .i64 a.tick, .int .i64 a.err]).alloc _
  have HO : Hid (Blk ((w.alloc (.cells #[.int .i64 a.id, .int .i64 a.x, .int .i64 a.y, .int .i64 a.tick, .int .i64 a.err] 37)).alloc (.cells #[.int .i64 o.x, .int .i64 o.y, .int .i64 o.tick] 39)) (w.heap.size + 1) 39 #[.int .i64 o.x, .int .i64 o.y, .int .i64 o.tick]) := by have hq := Blk.new (w.alloc (.cells #[.int .i64 a.id, .int .i64 a.x, .int .i64 a.y, .int .i64 a.tick, .int .i64 a.err] 37)) 39 #[.int .i64 o.x, .int .i64 o.y, .int .i64 o.tick]; simp at hq; exact hq
  have hB0 : Below w.heap.size w ((w.alloc (.cells #[.int .i64 a.id, .int .i64 a.x, .int .i64 a.y, .int .i64 a.tick, .int .i64 a.err] 37)).alloc (.cells #[.int .i64 o.x, .int .i64 o.y, .int .i64 o.tick] 39)) := by (repeat (first | with_reducible exact Below.refl _ _ | with_reducible assumption | with_reducible refine Below.setCell ?_ (by simp <;> omega) _ | with_reducible refine Below.alloc ?_ (by first | omega | (simp <;> omega)) _ | with_reducible refine Below.drew ?_ | with_reducible refine below_drewN ?_ _))
  obtain ⟨a0, a1, a2, a3, a4⟩ := box5 HA.out
  obtain ⟨o0, o1, o2⟩ := box3 HO.out
  cases hA : goodA a with
  | false =>
    simp only [Bool.false_and]
    go_enter Try.func20, Try.ntmps20
    go_wp2_with (first | (go_at_call 68; refine (l10One_any a _).mono ?_; rintro e w1 ⟨rfl, hb1⟩; rw [hA]; have HA1 := Lib.hid (HA.out.after hb1); have HO1 := Lib.hid (HO.out.after hb1); have hB1 := hB0.trans (hb1.mono hB0.size); clear a0 a1 a2 a3 a4 o0 o1 o2; obtain ⟨a0, a1, a2, a3, a4⟩ := box5 HA1.out; obtain ⟨o0, o1, o2⟩ := box3 HO1.out) | (go_at_call 69; refine (l10Origin_any o _).mono ?_; rintro e w2 ⟨rfl, hb2⟩; rw [hO]; have HA2 := Lib.hid (HA1.out.after hb2); have HO2 := Lib.hid (HO1.out.after hb2); have hB2 := hB1.trans (hb2.mono hB1.size); clear a0 a1 a2 a3 a4 o0 o1 o2; obtain ⟨a0, a1, a2, a3, a4⟩ := box5 HA2.out; obtain ⟨o0, o1, o2⟩ := box3 HO2.out) | (go_at_call 70; refine (l10Fits_any a o _ hA hO).mono ?_; rintro e w3 ⟨rfl, hb3⟩))
    go_ret2
    exact ⟨rfl, hB1⟩
  | true =>
    cases hO : goodO o with
    | false =>
      simp only [Bool.and_false, Bool.false_and]
      go_enter Try.func20, Try.ntmps20
      go_wp2_with (first | (go_at_call 68; refine (l10One_any a _).mono ?_; rintro e w1 ⟨rfl, hb1⟩; rw [hA]; have HA1 := Lib.hid (HA.out.after hb1); have HO1 := Lib.hid (HO.out.after hb1); have hB1 := hB0.trans (hb1.mono hB0.size); clear a0 a1 a2 a3 a4 o0 o1 o2; obtain ⟨a0, a1, a2, a3, a4⟩ := box5 HA1.out; obtain ⟨o0, o1, o2⟩ := box3 HO1.out) | (go_at_call 69; refine (l10Origin_any o _).mono ?_; rintro e w2 ⟨rfl, hb2⟩; rw [hO]; have HA2 := Lib.hid (HA1.out.after hb2); have HO2 := Lib.hid (HO1.out.after hb2); have hB2 := hB1.trans (hb2.mono hB1.size); clear a0 a1 a2 a3 a4 o0 o1 o2; obtain ⟨a0, a1, a2, a3, a4⟩ := box5 HA2.out; obtain ⟨o0, o1, o2⟩ := box3 HO2.out) | (go_at_call 70; refine (l10Fits_any a o _ hA hO).mono ?_; rintro e w3 ⟨rfl, hb3⟩))
      go_ret2
      exact ⟨rfl, hB2⟩
    | true =>
      simp only [Bool.true_and]
      go_enter Try.func20, Try.ntmps20
      go_wp2_with (first | (go_at_call 68; refine (l10One_any a _).mono ?_; rintro e w1 ⟨rfl, hb1⟩; rw [hA]; have HA1 := Lib.hid (HA.out.after hb1); have HO1 := Lib.hid (HO.out.after hb1); have hB1 := hB0.trans (hb1.mono hB0.size); clear a0 a1 a2 a3 a4 o0 o1 o2; obtain ⟨a0, a1, a2, a3, a4⟩ := box5 HA1.out; obtain ⟨o0, o1, o2⟩ := box3 HO1.out) | (go_at_call 69; refine (l10Origin_any o _).mono ?_; rintro e w2 ⟨rfl, hb2⟩; rw [hO]; have HA2 := Lib.hid (HA1.out.after hb2); have HO2 := Lib.hid (HO1.out.after hb2); have hB2 := hB1.trans (hb2.mono hB1.size); clear a0 a1 a2 a3 a4 o0 o1 o2; obtain ⟨a0, a1, a2, a3, a4⟩ := box5 HA2.out; obtain ⟨o0, o1, o2⟩ := box3 HO2.out) | (go_at_call 70; refine (l10Fits_any a o _ hA hO).mono ?_; rintro e w3 ⟨rfl, hb3⟩))
      go_ret2
      exact ⟨rfl, hB2.trans (hb3.mono hB2.size)⟩

end Go.Proofs.Ytdadcbcanjmoeaa
