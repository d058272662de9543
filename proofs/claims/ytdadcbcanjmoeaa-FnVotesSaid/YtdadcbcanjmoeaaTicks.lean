/-
  Contracts of ticks that fit and of origins that fit. (Printed by gen_D4.py.)
-/
import Derived.Test.YtdadcbcanjmoeaaRoot
import Derived.Test.YtdadcbcanjmoeaaChk
namespace Go.Proofs.Ytdadcbcanjmoeaa
set_option linter.unusedVariables false
open Go.RowKit

def lo (a : Arrival) (x y : Int) : Int := loT a.x a.y a.tick a.err x y
def hi (a : Arrival) (x y : Int) : Int := hiT a.x a.y a.tick a.err x y
def fitV (a : Arrival) (o : Origin) : Bool := fitB a.x a.y a.tick a.err o.x o.y o.tick
theorem fitV_eq (a : Arrival) (o : Origin) : fitV a o = inB o.tick (lo a o.x o.y) (hi a o.x o.y) := rfl
theorem sq_of4 {d : Int} (h1 : -999 ≤ d) (h2 : d ≤ 999) : 0 ≤ d * d ∧ d * d ≤ 4000000 := by have := sq_of h1 h2; omega
theorem lo_bd {a : Arrival} {x y : Int} (ha : goodA a = true) (hp : placeB x y = true) : (0 ≤ lo a x y ∧ lo a x y ≤ 1000000) ∧ (-30000 ≤ hi a x y ∧ hi a x y ≤ 1000000) := by
  obtain ⟨_, ⟨hx, hy⟩, ht, he⟩ := goodA_iff.1 ha
  obtain ⟨hu, hv⟩ := placeB_iff.1 hp
  have hS := s400_bd hx hy hu hv
  have hr := rt_bd hS.1 hS.2
  have hU := rtU_bd hS.1
  unfold lo hi loT hiT
  omega

set_option maxRecDepth 100000 in
set_option maxHeartbeats 1000000 in
theorem ticks_any (a : Arrival) (x y : Int) (w : World) (ha : goodA a = true) (hp : placeB x y = true) :
    Calls Try.prog 79 #[.agg #[.int .i64 a.id, .int .i64 a.x, .int .i64 a.y, .int .i64 a.tick, .int .i64 a.err], .int .i64 x, .int .i64 y] w fun e w' => e = .returned (.tuple #[.int .i64 (lo a x y), .int .i64 (hi a x y)]) ∧ Below w.heap.size w w' := by
  obtain ⟨_, ⟨hx, hy⟩, ht, he⟩ := goodA_iff.1 ha
  obtain ⟨hu, hv⟩ := placeB_iff.1 hp
  unfold lo hi loT hiT
  clear ha hp
  obtain ⟨id, ax, ay, tk, er⟩ := a
  simp only at *
  have hS := s400_bd hx hy hu hv
  have hr := rt_bd hS.1 hS.2
  have hc := fun W => root_any (s400 ax ay x y) W hS.1 hS.2
  have m1 := sq_of4 (d := ax - x) (by omega) (by omega)
  have m2 := sq_of4 (d := ay - y) (by omega) (by omega)
  have hU0 : rtU (s400 ax ay x y) = if rt (s400 ax ay x y) * rt (s400 ax ay x y) == s400 ax ay x y then rt (s400 ax ay x y) else rt (s400 ax ay x y) + 1 := rfl
  obtain ⟨r, hr0⟩ : ∃ r, rt (s400 ax ay x y) = r := ⟨_, rfl⟩
  obtain ⟨u, hu0⟩ : ∃ u, rtU (s400 ax ay x y) = u := ⟨_, rfl⟩
  rw [hr0] at hr hc hU0 ⊢
  rw [hu0] at hU0 ⊢
  have hs : 0 ≤ 400 * ((ax - x) * (ax - x) + (ay - y) * (ay - y)) ∧ 400 * ((ax - x) * (ax - x) + (ay - y) * (ay - y)) ≤ 798400800 := hS
  obtain ⟨b0, b1, b2, b3, b4⟩ := box5 (Blk.new w 37 #[.int .i64 id, .int .i64 ax, .int .i64 ay, .int .i64 tk, .int .i64 er])
  cases hex : (r * r == s400 ax ay x y) with
  | true =>
    rw [hex] at hc hU0
    simp only [if_true] at hU0
    subst hU0
    have hc2 : ∀ W, Calls Try.prog 112 #[.int .i64 (400 * ((ax - x) * (ax - x) + (ay - y) * (ay - y)))] W fun e w' => e = .returned (.tuple #[.int .i64 u, .bool true]) ∧ W = w' := hc
    have Hc := Lib.hid hc2
    clear hc hc2 hex hr0 hu0 hS
    go_enter Try.func79, Try.ntmps79
    go_wp2_with (first | (go_at_call 107; refine (square_any _ _ _ m1 m2).mono ?_; rintro e w' ⟨rfl, rfl⟩) | (go_at_call 112; refine (Hc.out _).mono ?_; rintro e w' ⟨rfl, rfl⟩))
    go_quiet (fail)
    go_wp2
    go_ret2
    exact ⟨rfl, below_drewN ((Below.refl _ _).alloc (Nat.le_refl _) _) _⟩
  | false =>
    rw [hex] at hc hU0
    simp only [Bool.false_eq_true, if_false] at hU0
    subst hU0
    have hc2 : ∀ W, Calls Try.prog 112 #[.int .i64 (400 * ((ax - x) * (ax - x) + (ay - y) * (ay - y)))] W fun e w' => e = .returned (.tuple #[.int .i64 r, .bool false]) ∧ W = w' := hc
    have Hc := Lib.hid hc2
    clear hc hc2 hex hr0 hu0 hS
    rw [show tk + er - (r + 1) = tk + er - r - 1 by omega]
    go_enter Try.func79, Try.ntmps79
    go_wp2_with (first | (go_at_call 107; refine (square_any _ _ _ m1 m2).mono ?_; rintro e w' ⟨rfl, rfl⟩) | (go_at_call 112; refine (Hc.out _).mono ?_; rintro e w' ⟨rfl, rfl⟩))
    go_quiet (fail)
    go_wp2
    go_ret2
    exact ⟨rfl, below_drewN ((Below.refl _ _).alloc (Nat.le_refl _) _) _⟩

set_option maxRecDepth 100000 in
set_option maxHeartbeats 1000000 in
theorem l10Ticks_any (a : Arrival) (x y : Int) (w : World) (ha : goodA a = true) (hp : placeB x y = true) :
    Calls Try.prog 78 #[.agg #[.int .i64 a.id, .int .i64 a.x, .int .i64 a.y, .int .i64 a.tick, .int .i64 a.err], .int .i64 x, .int .i64 y] w fun e w' => e = .returned (.tuple #[.int .i64 (lo a x y), .int .i64 (hi a x y)]) ∧ Below w.heap.size w w' := by
  obtain ⟨_, ⟨hx, hy⟩, ht, he⟩ := goodA_iff.1 ha
  obtain ⟨hu, hv⟩ := placeB_iff.1 hp
  unfold lo hi loT hiT
  clear ha hp
  obtain ⟨id, ax, ay, tk, er⟩ := a
  simp only at *
  have hS := s400_bd hx hy hu hv
  have hr := rt_bd hS.1 hS.2
  obtain ⟨q1, q2, q3⟩ := rt_spec hS.1
  have hq := fun W => l10Square_any ax ay x y W hx hy hu hv
  have hU0 : rtU (s400 ax ay x y) = if rt (s400 ax ay x y) * rt (s400 ax ay x y) == s400 ax ay x y then rt (s400 ax ay x y) else rt (s400 ax ay x y) + 1 := rfl
  generalize hs0 : s400 ax ay x y = n at *
  have hc := fun W => l10Root_any n W hS.1 hS.2
  obtain ⟨r, hr0⟩ : ∃ r, rt n = r := ⟨_, rfl⟩
  obtain ⟨u, hu0⟩ : ∃ u, rtU n = u := ⟨_, rfl⟩
  rw [hr0] at hr hc hU0 q1 q2 ⊢
  rw [hu0] at hU0 ⊢
  have q4 := Int.mul_nonneg q1 q1
  have Hq := Lib.hid hq
  have Hc := Lib.hid hc
  clear hq hc hr0 hu0 hs0 q3
  obtain ⟨b0, b1, b2, b3, b4⟩ := box5 (Blk.new w 37 #[.int .i64 id, .int .i64 ax, .int .i64 ay, .int .i64 tk, .int .i64 er])
  have e1 := Lib.hid (IntWalk.i64_in (tk - er) (by omega))
  have e2 := Lib.hid (IntWalk.i64_in (tk - er - r) (by omega))
  have e3 := Lib.hid (IntWalk.i64_in (tk + er) (by omega))
  have e4 := Lib.hid (IntWalk.i64_in (tk + er - r) (by omega))
  have e5 := Lib.hid (IntWalk.i64_in (tk + er - (r + 1)) (by omega))
  cases hex : (r * r == n) with
  | true =>
    have hlt : ¬ r * r < n := by rw [beq_iff_eq] at hex; omega
    rw [hex] at hU0
    simp only [if_true] at hU0
    subst hU0
    clear hex
    go_enter Try.func78, Try.ntmps78
    go_wp2_with (first | (go_at_call 108; refine (Hq.out _).mono ?_; rintro e w' ⟨rfl, rfl⟩) | (go_at_call 109; refine (Hc.out _).mono ?_; rintro e w' ⟨rfl, rfl⟩))
    go_quiet (first | (go_at_call 110; (try simp only [e1.out, e2.out]); exact quiet_left (l1Most_any _ _ _)) | (go_at_call 111; (try simp only [e3.out, e4.out]); exact quiet_left (l1Least_any _ _ _)))
    go_wp2
    go_ret2
    exact ⟨rfl, below_drewN ((Below.refl _ _).alloc (Nat.le_refl _) _) _⟩
  | false =>
    have hlt : r * r < n := by have h9 : r * r ≠ n := by simpa using hex
                               omega
    rw [hex] at hU0
    simp only [Bool.false_eq_true, if_false] at hU0
    subst hU0
    clear hex
    go_enter Try.func78, Try.ntmps78
    go_wp2_with (first | (go_at_call 108; refine (Hq.out _).mono ?_; rintro e w' ⟨rfl, rfl⟩) | (go_at_call 109; refine (Hc.out _).mono ?_; rintro e w' ⟨rfl, rfl⟩))
    go_quiet (first | (go_at_call 110; (try simp only [e1.out, e2.out]); exact quiet_left (l1Most_any _ _ _)) | (go_at_call 111; (try simp only [e3.out, e5.out]); exact quiet_left (l1Least_any _ _ _)))
    go_wp2
    go_ret2
    exact ⟨rfl, below_drewN ((Below.refl _ _).alloc (Nat.le_refl _) _) _⟩

end Go.Proofs.Ytdadcbcanjmoeaa
