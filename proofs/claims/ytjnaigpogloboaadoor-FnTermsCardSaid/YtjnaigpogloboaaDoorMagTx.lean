/-
  The text of a magnitude, in the program and in the reference; the law. (Printed by gen_E3.py.)
-/
import Derived.Test.YtjnaigpogloboaaDoorMagT
namespace Go.Proofs.YtjnaigpogloboaaDoor
set_option linter.unusedVariables false
open Go.RowKit Go.Sort

theorem dec_size2 (n : Nat) (h : n < 100) : (Lib.decDigits n).toArray.size ≤ 2 := by
  by_cases h1 : n < 10
  · rw [Lib.decDigits_one h1]; simp
  · rw [Lib.decDigits_two h1 h]; simp

theorem iMagT_neg (n : Int) (a : Nat) (A B : Array UInt8) (ha : absI n = a) (hb : inB n (-1000) 2000 = true) (hn : n < 0) (ht : (0 : Int) < ((a : Int) + 5) / 10) (hl : a ≤ 2000)
    (hA : (Lib.decDigits ((a + 5) / 10 / 10)).toArray = A) (hB : (Lib.decDigits ((a + 5) / 10 % 10)).toArray = B) (W : World) :
    Calls Tryd.prog 15 #[.int .i64 n] W fun e w' => e = .returned (.tuple #[.string (⟨#[77, 32]⟩ ++ ⟨#[45]⟩ ++ ⟨A⟩ ++ ⟨#[46]⟩ ++ ⟨B⟩), .bool true]) ∧ W = w' := by
  have H := Lib.hid (in_any n (-1000) 2000)
  obtain ⟨g1, g2⟩ := inB_true hb
  have H1 := Lib.hid (fun W => itoaSmall_any ((a + 5) / 10 / 10) (by omega) W)
  have H2 := Lib.hid (fun W => itoaSmall_any ((a + 5) / 10 % 10) (by omega) W)
  have s1 := dec_size2 ((a + 5) / 10 / 10) (by omega)
  have s2 := dec_size2 ((a + 5) / 10 % 10) (by omega)
  rw [hb] at H
  rw [hA] at s1
  rw [hB] at s2
  have Ha := Lib.hid (fun W => abs_any n W (by omega) (by omega))
  rw [ha] at Ha
  rw [hA, show (((a + 5) / 10 / 10 : Nat) : Int) = ((a : Int) + 5) / 10 / 10 by omega] at H1
  rw [hB, show (((a + 5) / 10 % 10 : Nat) : Int) = ((a : Int) + 5) / 10 % 10 by omega] at H2
  clear hA hB ha hb
  go_enter Tryd.func15, Tryd.ntmps15
  go_wp2_with (first | (go_at_call 63; refine (H.out _).mono ?_; rintro e w' ⟨rfl, rfl⟩) | (go_at_call 64; refine (Ha.out _).mono ?_; rintro e w' ⟨rfl, rfl⟩) | (go_at_call 65; first | (with_reducible refine (H1.out _).mono ?_; rintro e w' ⟨rfl, rfl⟩) | (with_reducible refine (H2.out _).mono ?_; rintro e w' ⟨rfl, rfl⟩)))
  all_goals first | omega | skip
  go_ret2
  exact ⟨rfl, rfl⟩

theorem iMagT_pos (n : Int) (a : Nat) (A B : Array UInt8) (ha : absI n = a) (hb : inB n (-1000) 2000 = true) (hn : ¬ n < 0) (hl : a ≤ 2000)
    (hA : (Lib.decDigits ((a + 5) / 10 / 10)).toArray = A) (hB : (Lib.decDigits ((a + 5) / 10 % 10)).toArray = B) (W : World) :
    Calls Tryd.prog 15 #[.int .i64 n] W fun e w' => e = .returned (.tuple #[.string (⟨#[77, 32]⟩ ++ ⟨A⟩ ++ ⟨#[46]⟩ ++ ⟨B⟩), .bool true]) ∧ W = w' := by
  have H := Lib.hid (in_any n (-1000) 2000)
  obtain ⟨g1, g2⟩ := inB_true hb
  have H1 := Lib.hid (fun W => itoaSmall_any ((a + 5) / 10 / 10) (by omega) W)
  have H2 := Lib.hid (fun W => itoaSmall_any ((a + 5) / 10 % 10) (by omega) W)
  have s1 := dec_size2 ((a + 5) / 10 / 10) (by omega)
  have s2 := dec_size2 ((a + 5) / 10 % 10) (by omega)
  rw [hb] at H
  rw [hA] at s1
  rw [hB] at s2
  have Ha := Lib.hid (fun W => abs_any n W (by omega) (by omega))
  rw [ha] at Ha
  rw [hA, show (((a + 5) / 10 / 10 : Nat) : Int) = ((a : Int) + 5) / 10 / 10 by omega] at H1
  rw [hB, show (((a + 5) / 10 % 10 : Nat) : Int) = ((a : Int) + 5) / 10 % 10 by omega] at H2
  clear hA hB ha hb
  go_enter Tryd.func15, Tryd.ntmps15
  go_wp2_with (first | (go_at_call 63; refine (H.out _).mono ?_; rintro e w' ⟨rfl, rfl⟩) | (go_at_call 64; refine (Ha.out _).mono ?_; rintro e w' ⟨rfl, rfl⟩) | (go_at_call 65; first | (with_reducible refine (H1.out _).mono ?_; rintro e w' ⟨rfl, rfl⟩) | (with_reducible refine (H2.out _).mono ?_; rintro e w' ⟨rfl, rfl⟩)))
  all_goals first | omega | skip
  go_ret2
  exact ⟨rfl, rfl⟩

theorem iMagT_zero (n : Int) (a : Nat) (A B : Array UInt8) (ha : absI n = a) (hb : inB n (-1000) 2000 = true) (hn : n < 0) (ht : ¬ (0 : Int) < ((a : Int) + 5) / 10) (hl : a ≤ 2000)
    (hA : (Lib.decDigits ((a + 5) / 10 / 10)).toArray = A) (hB : (Lib.decDigits ((a + 5) / 10 % 10)).toArray = B) (W : World) :
    Calls Tryd.prog 15 #[.int .i64 n] W fun e w' => e = .returned (.tuple #[.string (⟨#[77, 32]⟩ ++ ⟨A⟩ ++ ⟨#[46]⟩ ++ ⟨B⟩), .bool true]) ∧ W = w' := by
  have H := Lib.hid (in_any n (-1000) 2000)
  obtain ⟨g1, g2⟩ := inB_true hb
  have H1 := Lib.hid (fun W => itoaSmall_any ((a + 5) / 10 / 10) (by omega) W)
  have H2 := Lib.hid (fun W => itoaSmall_any ((a + 5) / 10 % 10) (by omega) W)
  have s1 := dec_size2 ((a + 5) / 10 / 10) (by omega)
  have s2 := dec_size2 ((a + 5) / 10 % 10) (by omega)
  rw [hb] at H
  rw [hA] at s1
  rw [hB] at s2
  have Ha := Lib.hid (fun W => abs_any n W (by omega) (by omega))
  rw [ha] at Ha
  rw [hA, show (((a + 5) / 10 / 10 : Nat) : Int) = ((a : Int) + 5) / 10 / 10 by omega] at H1
  rw [hB, show (((a + 5) / 10 % 10 : Nat) : Int) = ((a : Int) + 5) / 10 % 10 by omega] at H2
  clear hA hB ha hb
  go_enter Tryd.func15, Tryd.ntmps15
  go_wp2_with (first | (go_at_call 63; refine (H.out _).mono ?_; rintro e w' ⟨rfl, rfl⟩) | (go_at_call 64; refine (Ha.out _).mono ?_; rintro e w' ⟨rfl, rfl⟩) | (go_at_call 65; first | (with_reducible refine (H1.out _).mono ?_; rintro e w' ⟨rfl, rfl⟩) | (with_reducible refine (H2.out _).mono ?_; rintro e w' ⟨rfl, rfl⟩)))
  all_goals first | omega | skip
  go_ret2
  exact ⟨rfl, rfl⟩

theorem iMagT_bad (n : Int) (hb : inB n (-1000) 2000 = false) (W : World) :
    Calls Tryd.prog 15 #[.int .i64 n] W fun e w' => e = .returned (.tuple #[.string ⟨#[]⟩, .bool false]) ∧ Below W.heap.size W w' := by
  have H := Lib.hid (in_any n (-1000) 2000)
  rw [hb] at H
  go_enter Tryd.func15, Tryd.ntmps15
  go_wp2_with (go_at_call 63; refine (H.out _).mono ?_; rintro e w' ⟨rfl, rfl⟩)
  go_ret2
  exact ⟨rfl, Below.refl _ _⟩

theorem sMagT_neg (n : Int) (a : Nat) (A B : Array UInt8) (ha : absI n = a) (hb : inB n (-1000) 2000 = true) (hn : n < 0) (ht : (0 : Int) < ((a : Int) + 5) / 10) (hl : a ≤ 2000)
    (hA : (Lib.decDigits ((a + 5) / 10 / 10)).toArray = A) (hB : (Lib.decDigits ((a + 5) / 10 % 10)).toArray = B) (W : World) :
    Calls Tryd.prog 14 #[.int .i64 n] W fun e w' => e = .returned (.tuple #[.string (⟨#[77, 32]⟩ ++ ⟨#[45]⟩ ++ ⟨A⟩ ++ ⟨#[46]⟩ ++ ⟨B⟩), .bool true]) ∧ Below W.heap.size W w' := by
  have H := Lib.hid (l1In_any n (-1000) 2000)
  obtain ⟨g1, g2⟩ := inB_true hb
  have H1 := Lib.hid (fun W => l1Num_any ((a + 5) / 10 / 10) (by omega) W)
  have H2 := Lib.hid (fun W => l1Num_any ((a + 5) / 10 % 10) (by omega) W)
  have s1 := dec_size2 ((a + 5) / 10 / 10) (by omega)
  have s2 := dec_size2 ((a + 5) / 10 % 10) (by omega)
  rw [hb] at H
  rw [hA] at s1
  rw [hB] at s2
  have Ha := Lib.hid (fun W => l1Most_any n (-n) W)
  rw [show max n (-n) = (a : Int) by rw [← ha]; unfold absI; omega] at Ha
  rw [hA, show (((a + 5) / 10 / 10 : Nat) : Int) = ((a : Int) + 5) / 10 / 10 by omega] at H1
  rw [hB, show (((a + 5) / 10 % 10 : Nat) : Int) = ((a : Int) + 5) / 10 % 10 by omega] at H2
  clear hA hB ha hb
  go_enter Tryd.func14, Tryd.ntmps14
  go_wp2_with (first | (go_at_call 60; refine (H.out _).mono ?_; rintro e w' ⟨rfl, rfl⟩) | (go_at_call 61; refine (Ha.out _).mono ?_; rintro e w' ⟨rfl, rfl⟩) | (go_at_call 62; first | (with_reducible refine (H1.out _).mono ?_; rintro e w1 ⟨rfl, hB1⟩) | (with_reducible refine (H2.out _).mono ?_; rintro e w2 ⟨rfl, hB2⟩)))
  all_goals first | omega | skip
  go_ret2
  exact ⟨rfl, hB1.trans (hB2.mono hB1.size)⟩

theorem sMagT_pos (n : Int) (a : Nat) (A B : Array UInt8) (ha : absI n = a) (hb : inB n (-1000) 2000 = true) (hn : ¬ n < 0) (hl : a ≤ 2000)
    (hA : (Lib.decDigits ((a + 5) / 10 / 10)).toArray = A) (hB : (Lib.decDigits ((a + 5) / 10 % 10)).toArray = B) (W : World) :
    Calls Tryd.prog 14 #[.int .i64 n] W fun e w' => e = .returned (.tuple #[.string (⟨#[77, 32]⟩ ++ ⟨A⟩ ++ ⟨#[46]⟩ ++ ⟨B⟩), .bool true]) ∧ Below W.heap.size W w' := by
  have H := Lib.hid (l1In_any n (-1000) 2000)
  obtain ⟨g1, g2⟩ := inB_true hb
  have H1 := Lib.hid (fun W => l1Num_any ((a + 5) / 10 / 10) (by omega) W)
  have H2 := Lib.hid (fun W => l1Num_any ((a + 5) / 10 % 10) (by omega) W)
  have s1 := dec_size2 ((a + 5) / 10 / 10) (by omega)
  have s2 := dec_size2 ((a + 5) / 10 % 10) (by omega)
  rw [hb] at H
  rw [hA] at s1
  rw [hB] at s2
  have Ha := Lib.hid (fun W => l1Most_any n (-n) W)
  rw [show max n (-n) = (a : Int) by rw [← ha]; unfold absI; omega] at Ha
  rw [hA, show (((a + 5) / 10 / 10 : Nat) : Int) = ((a : Int) + 5) / 10 / 10 by omega] at H1
  rw [hB, show (((a + 5) / 10 % 10 : Nat) : Int) = ((a : Int) + 5) / 10 % 10 by omega] at H2
  clear hA hB ha hb
  go_enter Tryd.func14, Tryd.ntmps14
  go_wp2_with (first | (go_at_call 60; refine (H.out _).mono ?_; rintro e w' ⟨rfl, rfl⟩) | (go_at_call 61; refine (Ha.out _).mono ?_; rintro e w' ⟨rfl, rfl⟩) | (go_at_call 62; first | (with_reducible refine (H1.out _).mono ?_; rintro e w1 ⟨rfl, hB1⟩) | (with_reducible refine (H2.out _).mono ?_; rintro e w2 ⟨rfl, hB2⟩)))
  all_goals first | omega | skip
  go_ret2
  exact ⟨rfl, hB1.trans (hB2.mono hB1.size)⟩

theorem sMagT_zero (n : Int) (a : Nat) (A B : Array UInt8) (ha : absI n = a) (hb : inB n (-1000) 2000 = true) (hn : n < 0) (ht : ¬ (0 : Int) < ((a : Int) + 5) / 10) (hl : a ≤ 2000)
    (hA : (Lib.decDigits ((a + 5) / 10 / 10)).toArray = A) (hB : (Lib.decDigits ((a + 5) / 10 % 10)).toArray = B) (W : World) :
    Calls Tryd.prog 14 #[.int .i64 n] W fun e w' => e = .returned (.tuple #[.string (⟨#[77, 32]⟩ ++ ⟨A⟩ ++ ⟨#[46]⟩ ++ ⟨B⟩), .bool true]) ∧ Below W.heap.size W w' := by
  have H := Lib.hid (l1In_any n (-1000) 2000)
  obtain ⟨g1, g2⟩ := inB_true hb
  have H1 := Lib.hid (fun W => l1Num_any ((a + 5) / 10 / 10) (by omega) W)
  have H2 := Lib.hid (fun W => l1Num_any ((a + 5) / 10 % 10) (by omega) W)
  have s1 := dec_size2 ((a + 5) / 10 / 10) (by omega)
  have s2 := dec_size2 ((a + 5) / 10 % 10) (by omega)
  rw [hb] at H
  rw [hA] at s1
  rw [hB] at s2
  have Ha := Lib.hid (fun W => l1Most_any n (-n) W)
  rw [show max n (-n) = (a : Int) by rw [← ha]; unfold absI; omega] at Ha
  rw [hA, show (((a + 5) / 10 / 10 : Nat) : Int) = ((a : Int) + 5) / 10 / 10 by omega] at H1
  rw [hB, show (((a + 5) / 10 % 10 : Nat) : Int) = ((a : Int) + 5) / 10 % 10 by omega] at H2
  clear hA hB ha hb
  go_enter Tryd.func14, Tryd.ntmps14
  go_wp2_with (first | (go_at_call 60; refine (H.out _).mono ?_; rintro e w' ⟨rfl, rfl⟩) | (go_at_call 61; refine (Ha.out _).mono ?_; rintro e w' ⟨rfl, rfl⟩) | (go_at_call 62; first | (with_reducible refine (H1.out _).mono ?_; rintro e w1 ⟨rfl, hB1⟩) | (with_reducible refine (H2.out _).mono ?_; rintro e w2 ⟨rfl, hB2⟩)))
  all_goals first | omega | skip
  go_ret2
  exact ⟨rfl, hB1.trans (hB2.mono hB1.size)⟩

theorem sMagT_bad (n : Int) (hb : inB n (-1000) 2000 = false) (W : World) :
    Calls Tryd.prog 14 #[.int .i64 n] W fun e w' => e = .returned (.tuple #[.string ⟨#[]⟩, .bool false]) ∧ Below W.heap.size W w' := by
  have H := Lib.hid (l1In_any n (-1000) 2000)
  rw [hb] at H
  go_enter Tryd.func14, Tryd.ntmps14
  go_wp2_with (go_at_call 60; refine (H.out _).mono ?_; rintro e w' ⟨rfl, rfl⟩)
  go_ret2
  exact ⟨rfl, Below.refl _ _⟩

/-- Both tell the same text. -/
theorem magT_both (n : Int) : ∃ (T : ByteArray) (b : Bool), (∀ W, Calls Tryd.prog 15 #[.int .i64 n] W fun e w' => e = .returned (.tuple #[.string T, .bool b]) ∧ Below W.heap.size W w') ∧
    (∀ W, Calls Tryd.prog 14 #[.int .i64 n] W fun e w' => e = .returned (.tuple #[.string T, .bool b]) ∧ Below W.heap.size W w') := by
  cases hb : inB n (-1000) 2000
  · exact ⟨_, _, iMagT_bad n hb, sMagT_bad n hb⟩
  · obtain ⟨g1, g2⟩ := inB_true hb
    obtain ⟨a, ha⟩ : ∃ a : Nat, absI n = a := ⟨(absI n).toNat, by unfold absI; omega⟩
    have hl : a ≤ 2000 := by unfold absI at ha; omega
    have key : ∀ {W : World} {v : Value} {e : Ending} {w' : World}, (e = .returned v ∧ W = w') → e = .returned v ∧ Below W.heap.size W w' := fun h => ⟨h.1, h.2 ▸ Below.refl _ _⟩
    by_cases hn : n < 0
    · by_cases ht : (0 : Int) < ((a : Int) + 5) / 10
      · exact ⟨_, _, fun W => (iMagT_neg n a _ _ ha hb hn ht hl rfl rfl W).mono fun _ _ h => key h, fun W => sMagT_neg n a _ _ ha hb hn ht hl rfl rfl W⟩
      · exact ⟨_, _, fun W => (iMagT_zero n a _ _ ha hb hn ht hl rfl rfl W).mono fun _ _ h => key h, fun W => sMagT_zero n a _ _ ha hb hn ht hl rfl rfl W⟩
    · exact ⟨_, _, fun W => (iMagT_pos n a _ _ ha hb hn hl rfl rfl W).mono fun _ _ h => key h, fun W => sMagT_pos n a _ _ ha hb hn hl rfl rfl W⟩

theorem law_MagnitudeText (n : Int) (W : World) (_ : (Lit.int .i64 n).wf = true) (_ : Pow10 W) :
    Calls Tryd.prog 4 #[.int .i64 n] W fun e w' => e = .returned (.bool true) ∧ Below W.heap.size W w' := by
  obtain ⟨T, b, H1, H2⟩ := magT_both n
  have G1 := Lib.hid H1
  have G2 := Lib.hid H2
  clear H1 H2
  go_enter Tryd.func4, Tryd.ntmps4
  go_wp2_with (first | (go_at_call 14; refine (G2.out _).mono ?_; rintro e w1 ⟨rfl, hB1⟩) | (go_at_call 15; refine (G1.out _).mono ?_; rintro e w2 ⟨rfl, hB2⟩))
  all_goals go_ret
  all_goals first | exact ⟨rfl, hB1.trans (hB2.mono hB1.size)⟩ | skip
end Go.Proofs.YtjnaigpogloboaaDoor
