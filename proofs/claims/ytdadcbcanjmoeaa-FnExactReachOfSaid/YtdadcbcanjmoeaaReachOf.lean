/-
  Contracts of ReachOf. (Printed by gen_D2.py.)
-/
import Derived.Test.YtdadcbcanjmoeaaReach
namespace Go.Proofs.Ytdadcbcanjmoeaa
set_option linter.unusedVariables false
open Go.RowKit

def okRO (s : Cube) (x y : Int) : Bool := goodC s && placeB x y
def ROl (s : Cube) (x y : Int) : Int := if okRO s x y then lowR s x y else 0
def ROh (s : Cube) (x y : Int) : Int := if okRO s x y then highR s x y else 0

theorem ReachOf_any (s : Cube) (x y : Int) (w : World) :
    Calls Try.prog 19 #[.agg #[.int .i64 s.west, .int .i64 s.south, .int .i64 s.side, .int .i64 s.from_, .int .i64 s.to_], .int .i64 x, .int .i64 y] w fun e w' => e = .returned (.tuple #[.int .i64 (ROl s x y), .int .i64 (ROh s x y), .bool (okRO s x y)]) ∧ Below w.heap.size w w' := by
  obtain ⟨we, so, si, fr, tt⟩ := s
  have HB0 := Lib.hid (Blk.new w 25 #[.int .i64 we, .int .i64 so, .int .i64 si, .int .i64 fr, .int .i64 tt])
  have hb0 : Below w.heap.size w (w.alloc (.cells #[.int .i64 we, .int .i64 so, .int .i64 si, .int .i64 fr, .int .i64 tt] 25)) := (Below.refl _ _).alloc (Nat.le_refl _) _
  have hcg : ∀ W, Calls Try.prog 17 #[.agg #[.int .i64 we, .int .i64 so, .int .i64 si, .int .i64 fr, .int .i64 tt]] W fun e w' => e = .returned (.bool (goodC ⟨we, so, si, fr, tt⟩)) ∧ Below W.heap.size W w' := fun W => IsCube_any ⟨we, so, si, fr, tt⟩ W
  have hcr : ∀ W, goodC ⟨we, so, si, fr, tt⟩ = true → placeB x y = true → _ := fun W h1 h2 => reach_any ⟨we, so, si, fr, tt⟩ x y W h1 h2
  have Hg := Lib.hid hcg
  have Hr := Lib.hid hcr
  clear hcg hcr
  unfold ROl ROh okRO
  cases hg : goodC ⟨we, so, si, fr, tt⟩ with
  | false =>
    simp only [Bool.false_and, Bool.false_eq_true, if_false]
    obtain ⟨b0, b1, b2, b3, b4⟩ := box5 HB0.out
    go_enter Try.func19, Try.ntmps19
    go_wp2_with fail
    refine (Hg.out _).mono ?_
    rintro e w1 ⟨rfl, hb1⟩
    have hB1 := hb0.trans (hb1.mono hb0.size)
    clear b0 b1 b2 b3 b4
    rw [hg]
    go_wp2
    go_ret3
    exact ⟨rfl, hB1⟩
  | true =>
    cases hp : placeB x y with
    | false =>
      simp only [Bool.and_false, Bool.false_eq_true, if_false]
      obtain ⟨b0, b1, b2, b3, b4⟩ := box5 HB0.out
      go_enter Try.func19, Try.ntmps19
      go_wp2_with fail
      refine (Hg.out _).mono ?_
      rintro e w1 ⟨rfl, hb1⟩
      have hB1 := hb0.trans (hb1.mono hb0.size)
      clear b0 b1 b2 b3 b4
      rw [hg]
      go_wp2_with (go_at_call 63; refine (isPlace_any _ _ _).mono ?_; rintro e w2 ⟨rfl, rfl⟩)
      go_ret3
      exact ⟨rfl, hB1⟩
    | true =>
      simp only [Bool.and_true, if_true]
      obtain ⟨b0, b1, b2, b3, b4⟩ := box5 HB0.out
      go_enter Try.func19, Try.ntmps19
      go_wp2_with fail
      refine (Hg.out _).mono ?_
      rintro e w1 ⟨rfl, hb1⟩
      have hB1 := hb0.trans (hb1.mono hb0.size)
      have HB1 := Lib.hid (HB0.out.after hb1)
      clear b0 b1 b2 b3 b4
      rw [hg]
      obtain ⟨b0, b1, b2, b3, b4⟩ := box5 HB1.out
      go_wp2_with (go_at_call 63; refine (isPlace_any _ _ _).mono ?_; rintro e w2 ⟨rfl, rfl⟩)
      refine (Hr.out _ hg hp).mono ?_
      rintro e w3 ⟨rfl, hb3⟩
      go_wp2
      go_ret3
      exact ⟨rfl, hB1.trans (hb3.mono hB1.size)⟩

theorem sReachOf_any (s : Cube) (x y : Int) (w : World) :
    Calls Try.prog 18 #[.agg #[.int .i64 s.west, .int .i64 s.south, .int .i64 s.side, .int .i64 s.from_, .int .i64 s.to_], .int .i64 x, .int .i64 y] w fun e w' => e = .returned (.tuple #[.int .i64 (ROl s x y), .int .i64 (ROh s x y), .bool (okRO s x y)]) ∧ Below w.heap.size w w' := by
  obtain ⟨we, so, si, fr, tt⟩ := s
  have HB0 := Lib.hid (Blk.new w 25 #[.int .i64 we, .int .i64 so, .int .i64 si, .int .i64 fr, .int .i64 tt])
  have hb0 : Below w.heap.size w (w.alloc (.cells #[.int .i64 we, .int .i64 so, .int .i64 si, .int .i64 fr, .int .i64 tt] 25)) := (Below.refl _ _).alloc (Nat.le_refl _) _
  have hcg : ∀ W, Calls Try.prog 61 #[.agg #[.int .i64 we, .int .i64 so, .int .i64 si, .int .i64 fr, .int .i64 tt]] W fun e w' => e = .returned (.bool (goodC ⟨we, so, si, fr, tt⟩)) ∧ Below W.heap.size W w' := fun W => l12Good_any ⟨we, so, si, fr, tt⟩ W
  have hcr : ∀ W, goodC ⟨we, so, si, fr, tt⟩ = true → placeB x y = true → _ := fun W h1 h2 => l12Reach_any ⟨we, so, si, fr, tt⟩ x y W h1 h2
  have Hg := Lib.hid hcg
  have Hr := Lib.hid hcr
  clear hcg hcr
  unfold ROl ROh okRO
  cases hg : goodC ⟨we, so, si, fr, tt⟩ with
  | false =>
    simp only [Bool.false_and, Bool.false_eq_true, if_false]
    obtain ⟨b0, b1, b2, b3, b4⟩ := box5 HB0.out
    go_enter Try.func18, Try.ntmps18
    go_wp2_with fail
    refine (Hg.out _).mono ?_
    rintro e w1 ⟨rfl, hb1⟩
    have hB1 := hb0.trans (hb1.mono hb0.size)
    clear b0 b1 b2 b3 b4
    rw [hg]
    go_wp2
    go_ret3
    exact ⟨rfl, hB1⟩
  | true =>
    cases hp : placeB x y with
    | false =>
      simp only [Bool.and_false, Bool.false_eq_true, if_false]
      obtain ⟨b0, b1, b2, b3, b4⟩ := box5 HB0.out
      go_enter Try.func18, Try.ntmps18
      go_wp2_with fail
      refine (Hg.out _).mono ?_
      rintro e w1 ⟨rfl, hb1⟩
      have hB1 := hb0.trans (hb1.mono hb0.size)
      clear b0 b1 b2 b3 b4
      rw [hg]
      go_wp2_with (go_at_call 65; refine (l2Place_any _ _ _).mono ?_; rintro e w2 ⟨rfl, rfl⟩)
      go_ret3
      exact ⟨rfl, hB1⟩
    | true =>
      simp only [Bool.and_true, if_true]
      obtain ⟨b0, b1, b2, b3, b4⟩ := box5 HB0.out
      go_enter Try.func18, Try.ntmps18
      go_wp2_with fail
      refine (Hg.out _).mono ?_
      rintro e w1 ⟨rfl, hb1⟩
      have hB1 := hb0.trans (hb1.mono hb0.size)
      have HB1 := Lib.hid (HB0.out.after hb1)
      clear b0 b1 b2 b3 b4
      rw [hg]
      obtain ⟨b0, b1, b2, b3, b4⟩ := box5 HB1.out
      go_wp2_with (go_at_call 65; refine (l2Place_any _ _ _).mono ?_; rintro e w2 ⟨rfl, rfl⟩)
      refine (Hr.out _ hg hp).mono ?_
      rintro e w3 ⟨rfl, hb3⟩
      go_wp2
      go_ret3
      exact ⟨rfl, hB1.trans (hb3.mono hB1.size)⟩

end Go.Proofs.Ytdadcbcanjmoeaa
