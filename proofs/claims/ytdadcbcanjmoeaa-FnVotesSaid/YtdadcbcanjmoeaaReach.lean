/-
  Contracts of the reach of a cube.
-/
import Derived.Test.YtdadcbcanjmoeaaIsCube
import Derived.Test.YtdadcbcanjmoeaaMax
import Derived.Deep.RegionWith
import Derived.IntWalk
namespace Go.Proofs.Ytdadcbcanjmoeaa
set_option linter.unusedVariables false
open Go.RowKit

def nearI (p low side : Int) : Int := max 0 (max (low - p) (p - (low + side - 1)))
def farI (p low side : Int) : Int := max (low + side - 1 - p) (p - low)
def lowR (s : Cube) (x y : Int) : Int := nearI x s.west s.side * nearI x s.west s.side + nearI y s.south s.side * nearI y s.south s.side
def highR (s : Cube) (x y : Int) : Int := farI x s.west s.side * farI x s.west s.side + farI y s.south s.side * farI y s.south s.side

theorem near_bd {p low side : Int} (h1 : 0 ≤ p ∧ p ≤ 999) (h2 : 0 ≤ low ∧ low ≤ 999) (h3 : 1 ≤ side ∧ side ≤ 512) : (0 ≤ nearI p low side ∧ nearI p low side ≤ 2000) ∧ (0 ≤ farI p low side ∧ farI p low side ≤ 2000) := by
  unfold nearI farI; omega
theorem sq_bd {a : Int} (h : 0 ≤ a ∧ a ≤ 2000) : 0 ≤ a * a ∧ a * a ≤ 4000000 :=
  ⟨Int.mul_nonneg h.1 h.1, Int.mul_le_mul h.2 h.2 h.1 (by omega)⟩

theorem l12Span_any (p low side : Int) (w : World) (h1 : 0 ≤ p ∧ p ≤ 999) (h2 : 0 ≤ low ∧ low ≤ 999) (h3 : 1 ≤ side ∧ side ≤ 512) :
    Calls Try.prog 103 #[.int .i64 p, .int .i64 low, .int .i64 side] w fun e w' => e = .returned (.tuple #[.int .i64 (nearI p low side), .int .i64 (farI p low side)]) ∧ w = w' := by
  go_enter Try.func103, Try.ntmps103
  go_wp2_with (go_at_call 110; refine (l1Most_any _ _ _).mono ?_; rintro e w' ⟨rfl, rfl⟩)
  go_ret2
  refine ⟨?_, rfl⟩
  unfold nearI farI
  rfl

set_option maxRecDepth 100000 in
theorem l12Reach_any (s : Cube) (x y : Int) (w : World) (hs : goodC s = true) (hp : placeB x y = true) :
    Calls Try.prog 66 #[.agg #[.int .i64 s.west, .int .i64 s.south, .int .i64 s.side, .int .i64 s.from_, .int .i64 s.to_], .int .i64 x, .int .i64 y] w fun e w' => e = .returned (.tuple #[.int .i64 (lowR s x y), .int .i64 (highR s x y)]) ∧ Below w.heap.size w w' := by
  have hq : (1 ≤ s.side ∧ s.side ≤ 512) ∧ (0 ≤ s.west ∧ s.west ≤ 999) ∧ (0 ≤ s.south ∧ s.south ≤ 999) := by
    simp only [goodC, Bool.and_eq_true] at hs
    have h1 := sideB_in hs.1.1.1.1.1.1
    have h2 := placeB_iff.1 hs.1.1.1.1.1.2
    exact ⟨h1, h2⟩
  have hxy := placeB_iff.1 hp
  obtain ⟨q1, q2, q3⟩ := hq
  obtain ⟨x1, x2⟩ := hxy
  unfold lowR highR
  clear hs hp
  obtain ⟨we, so, si, fr, tt⟩ := s
  simp only at q1 q2 q3 ⊢
  obtain ⟨n1, n2⟩ := near_bd x1 q2 q1
  obtain ⟨n3, n4⟩ := near_bd x2 q3 q1
  have m1 := sq_bd n1
  have m2 := sq_bd n2
  have m3 := sq_bd n3
  have m4 := sq_bd n4
  have C1 := Lib.hid (fun w => l12Span_any x we si w x1 q2 q1)
  have C2 := Lib.hid (fun w => l12Span_any y so si w x2 q3 q1)
  generalize nearI x we si = a at *
  generalize farI x we si = b at *
  generalize nearI y so si = c at *
  generalize farI y so si = d at *
  go_enter Try.func66, Try.ntmps66
  go_wp2_with fail
  refine (C1.out _).mono ?_
  rintro e w1 ⟨rfl, rfl⟩
  go_wp2_with fail
  refine (C2.out _).mono ?_
  rintro e w2 ⟨rfl, rfl⟩
  go_wp2
  go_ret2
  refine ⟨rfl, ?_⟩
  (repeat (first | with_reducible exact Below.refl _ _ | with_reducible assumption | with_reducible refine Below.setCell ?_ (by simp <;> omega) _ | with_reducible refine Below.alloc ?_ (by first | omega | (simp <;> omega)) _ | with_reducible refine Below.drew ?_ | with_reducible refine below_drewN ?_ _))

theorem near_any (p low side : Int) (g : Nat) (w : World) (hc : w.cell? ⟨g, 2, none⟩ = some (.int .i64 side)) (h1 : 0 ≤ p ∧ p ≤ 999) (h2 : 0 ≤ low ∧ low ≤ 999) (h3 : 1 ≤ side ∧ side ≤ 512) :
    Calls Try.prog 104 #[.int .i64 p, .int .i64 low, .pointer (some ⟨g, 0, none⟩)] w fun e w' => e = .returned (.int .i64 (nearI p low side)) ∧ w = w' := by
  go_enter Try.func104, Try.ntmps104
  go_wp2
  go_ret
  exact ⟨ret_int (by unfold nearI; omega), rfl⟩

theorem far_any (p low side : Int) (g : Nat) (w : World) (hc : w.cell? ⟨g, 2, none⟩ = some (.int .i64 side)) (h1 : 0 ≤ p ∧ p ≤ 999) (h2 : 0 ≤ low ∧ low ≤ 999) (h3 : 1 ≤ side ∧ side ≤ 512) :
    Calls Try.prog 105 #[.int .i64 p, .int .i64 low, .pointer (some ⟨g, 0, none⟩)] w fun e w' => e = .returned (.int .i64 (farI p low side)) ∧ ∃ n, w' = w.drewN n := by
  go_enter Try.func105, Try.ntmps105
  have e1 := Lib.hid (IntWalk.i64_in (p - low) (by omega))
  have e2 := Lib.hid (IntWalk.i64_in (low + side) (by omega))
  have e3 := Lib.hid (IntWalk.i64_in (low + side - 1) (by omega))
  have e4 := Lib.hid (IntWalk.i64_in (p - (low + side - 1)) (by omega))
  go_wp2_with fail
  go_region_with (go_at_call 106; (try simp only [e1.out, e2.out, e3.out, e4.out]); refine (abs_any _ _ (by omega) (by omega)).mono ?_; rintro e w' ⟨rfl, rfl⟩)
  all_goals
    go_wp2
    go_ret
    refine ⟨ret_int (by unfold farI absI; omega), ?_⟩
    exact ⟨1, rfl⟩

theorem square_any (a b : Int) (w : World) (h1 : 0 ≤ a * a ∧ a * a ≤ 4000000) (h2 : 0 ≤ b * b ∧ b * b ≤ 4000000) :
    Calls Try.prog 107 #[.int .i64 a, .int .i64 b] w fun e w' => e = .returned (.int .i64 (a * a + b * b)) ∧ w = w' := by
  go_enter Try.func107, Try.ntmps107
  go_wp2
  go_ret
  exact ⟨rfl, rfl⟩

theorem quiet_more {P : Program} {f : FuncId} {args : Array Value} {w : World} {n : Nat} {v : Value}
    (h : Calls P f args (w.drewN n) fun e w' => e = .returned v ∧ ∃ m, w' = (w.drewN n).drewN m) : Calls P f args (w.drewN n) fun e w'' => e = .returned v ∧ ∃ m, w'' = w.drewN m :=
  h.mono fun _ _ ⟨he, m, hm⟩ => ⟨he, n + m, by rw [hm, World.drewN_drewN]⟩

set_option maxRecDepth 100000 in
set_option maxHeartbeats 2000000 in
theorem reach_any (s : Cube) (x y : Int) (w : World) (hs : goodC s = true) (hp : placeB x y = true) :
    Calls Try.prog 67 #[.agg #[.int .i64 s.west, .int .i64 s.south, .int .i64 s.side, .int .i64 s.from_, .int .i64 s.to_], .int .i64 x, .int .i64 y] w fun e w' => e = .returned (.tuple #[.int .i64 (lowR s x y), .int .i64 (highR s x y)]) ∧ Below w.heap.size w w' := by
  have hq : (1 ≤ s.side ∧ s.side ≤ 512) ∧ (0 ≤ s.west ∧ s.west ≤ 999) ∧ (0 ≤ s.south ∧ s.south ≤ 999) := by
    simp only [goodC, Bool.and_eq_true] at hs
    have h1 := sideB_in hs.1.1.1.1.1.1
    have h2 := placeB_iff.1 hs.1.1.1.1.1.2
    exact ⟨h1, h2⟩
  have hxy := placeB_iff.1 hp
  obtain ⟨q1, q2, q3⟩ := hq
  obtain ⟨x1, x2⟩ := hxy
  unfold lowR highR
  clear hs hp
  obtain ⟨we, so, si, fr, tt⟩ := s
  simp only at q1 q2 q3 ⊢
  obtain ⟨n1, n2⟩ := near_bd x1 q2 q1
  obtain ⟨n3, n4⟩ := near_bd x2 q3 q1
  have m1 := sq_bd n1
  have m2 := sq_bd n2
  have m3 := sq_bd n3
  have m4 := sq_bd n4
  obtain ⟨b0, b1, b2, b3, b4⟩ := box5 (Blk.new w 25 #[.int .i64 we, .int .i64 so, .int .i64 si, .int .i64 fr, .int .i64 tt])
  go_enter Try.func67, Try.ntmps67
  go_wp2_with fail
  go_quiet (first | (go_at_call 104; exact quiet_left (near_any _ _ _ _ _ b2 (by assumption) (by assumption) (by assumption))) | (go_at_call 105; exact quiet_more (far_any _ _ _ _ _ b2 (by assumption) (by assumption) (by assumption))) | (go_at_call 107; exact quiet_left (square_any _ _ _ (by assumption) (by assumption))))
  go_wp2
  go_ret2
  exact ⟨rfl, below_drewN ((Below.refl _ _).alloc (Nat.le_refl _) _) _⟩

end Go.Proofs.Ytdadcbcanjmoeaa
