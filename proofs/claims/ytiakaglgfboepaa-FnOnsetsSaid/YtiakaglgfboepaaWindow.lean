/-
  Contracts of WindowOf. (Printed by gen_A5.py.)
-/
import Derived.Test.YtiakaglgfboepaaPickV
namespace Go.Proofs.Ytiakaglgfboepaa
set_option linter.unusedVariables false
open Go.RowKit

theorem ret_ii {a b c d : Int} {o : Bool} (h1 : a = c) (h2 : b = d) : Ending.returned (.tuple #[.int .i64 a, .int .i64 b, .bool o]) = .returned (.tuple #[.int .i64 c, .int .i64 d, .bool o]) := by rw [h1, h2]

set_option maxRecDepth 100000 in
set_option maxHeartbeats 1000000 in
theorem WindowOf_any (A : Option Addr) (c : Nat) (l : List Pick) (w : World) (h : Rd encP 7 w w.heap.size A l) (hl : l.length ≤ 1048576) (hc : l.length ≤ c ∧ c ≤ maxLen) (id : Int) :
    Calls Try.prog 26 #[.slice A l.length c, .int .i64 id] w fun e w' => e = .returned (.tuple #[.int .i64 (wiLo l id), .int .i64 (wiHi l id), .bool (okWi l id)]) ∧ Below w.heap.size w w' := by
  unfold wiLo wiHi
  have hfb := findP_bd l id
  cases hp : picksS l with
  | false =>
    have hk : okWi l id = false := by simp [okWi, hp]
    simp only [hk, Bool.false_eq_true, if_false]
    clear hk hfb
    go_enter Try.func26, Try.ntmps26
    go_wp2_with (first | (go_at_call 65; refine (pickAt_any A c l _ h hl id).mono ?_; rintro e w0 ⟨rfl, hb0⟩; have hr0 := h.after hb0) | (go_at_call 21; refine (ArePicks_any A c l _ hr0 hl).mono ?_; rintro e w1 ⟨rfl, hb1⟩))
    go_ret3
    exact ⟨rfl, hb0.trans (hb1.mono hb0.size)⟩
  | true =>
    by_cases h0 : 0 ≤ findP l id
    · obtain ⟨j, hj, hfj, _⟩ := hfb h0
      have hk : okWi l id = true := by simp [okWi, hp, h0]
      have hg := goodP_iff.1 (picksS_get hp hj)
      simp only [hk, if_true]
      rw [hfj]
      simp only [Int.toNat_natCast, List.getElem?_eq_getElem hj]
      clear hk hfb h0
      have hji : (j : Int) < (l.length : Int) := by omega
      have hcell := fun (W : World) (hW : Rd encP 7 W W.heap.size A l) => cellsP hW hj
      obtain ⟨x, hx⟩ : ∃ x, l[j] = x := ⟨_, rfl⟩
      rw [hx] at hg hcell ⊢
      obtain ⟨⟨g1, g2⟩, ⟨g3, g4⟩, ⟨g5, g6⟩, ⟨g7, g8⟩, ⟨g9, g10⟩, ⟨g11, g12⟩, g13, g14⟩ := hg
      have s1 : IntKind.i64.wrap (x.tick - x.err) = x.tick - x.err := IntWalk.i64_in _ (by omega)
      have s2 : IntKind.i64.wrap (x.tick + x.err) = x.tick + x.err := IntWalk.i64_in _ (by omega)
      have Hcell := Lib.hid hcell
      have Hfj := Lib.hid hfj
      clear hcell hx hfj
      go_enter Try.func26, Try.ntmps26
      go_wp2_with fail
      refine (pickAt_any A c l _ h hl id).mono ?_
      rintro e w0 ⟨rfl, hb0⟩
      have hr0 := h.after hb0
      rw [Hfj.out]
      go_wp2_with fail
      refine (ArePicks_any A c l _ hr0 hl).mono ?_
      rintro e w1 ⟨rfl, hb1⟩
      rw [hp]
      have hB1 := hb0.trans (hb1.mono hb0.size)
      obtain ⟨b', off', e', hb', d0, d1, d2, d3, d4, d5, d6⟩ := Hcell.out w1 (hr0.after hb1)
      subst e'
      go_wp2_with fail
      go_quiet (fail)
      all_goals go_wp2
      all_goals
        go_ret3
        exact ⟨ret_ii (by omega) (by omega), below_drewN hB1 _⟩
    · have hk : okWi l id = false := by simp [okWi, h0]
      have hlt : findP l id < 0 := by omega
      simp only [hk, Bool.false_eq_true, if_false]
      clear hk hfb h0
      obtain ⟨r, hr⟩ : ∃ r, findP l id = r := ⟨_, rfl⟩
      rw [hr] at hlt
      have Hr := Lib.hid hr
      clear hr
      go_enter Try.func26, Try.ntmps26
      go_wp2_with fail
      refine (pickAt_any A c l _ h hl id).mono ?_
      rintro e w0 ⟨rfl, hb0⟩
      have hr0 := h.after hb0
      rw [Hr.out]
      go_wp2_with fail
      refine (ArePicks_any A c l _ hr0 hl).mono ?_
      rintro e w1 ⟨rfl, hb1⟩
      rw [hp]
      go_wp2
      go_ret3
      exact ⟨rfl, hb0.trans (hb1.mono hb0.size)⟩

set_option maxRecDepth 100000 in
set_option maxHeartbeats 1000000 in
theorem sWindowOf_any (A : Option Addr) (c : Nat) (l : List Pick) (w : World) (h : Rd encP 7 w w.heap.size A l) (hl : l.length ≤ 1048576) (hc : l.length ≤ c ∧ c ≤ maxLen) (id : Int) :
    Calls Try.prog 25 #[.slice A l.length c, .int .i64 id] w fun e w' => e = .returned (.tuple #[.int .i64 (wiLo l id), .int .i64 (wiHi l id), .bool (okWi l id)]) ∧ Below w.heap.size w w' := by
  unfold wiLo wiHi
  have hfb := findP_bd l id
  cases hp : picksS l with
  | false =>
    have hk : okWi l id = false := by simp [okWi, hp]
    simp only [hk, Bool.false_eq_true, if_false]
    clear hk hfb
    go_enter Try.func25, Try.ntmps25
    go_wp2_with (first | (go_at_call 73; refine (l7Find_any A l.length c l id _ w.heap.size rfl h hl).mono ?_; rintro e w0 ⟨rfl, rfl⟩) | (go_at_call 63; refine (l7Good_any A c l _ h hl hc).mono ?_; rintro e w1 ⟨rfl, hb1⟩))
    go_ret3
    exact ⟨rfl, hb1⟩
  | true =>
    by_cases h0 : 0 ≤ findP l id
    · obtain ⟨j, hj, hfj, _⟩ := hfb h0
      have hk : okWi l id = true := by simp [okWi, hp, h0]
      have hg := goodP_iff.1 (picksS_get hp hj)
      simp only [hk, if_true]
      rw [hfj]
      simp only [Int.toNat_natCast, List.getElem?_eq_getElem hj]
      clear hk hfb h0
      have hji : (j : Int) < (l.length : Int) := by omega
      have hcell := fun (W : World) (hW : Rd encP 7 W W.heap.size A l) => cellsP hW hj
      obtain ⟨x, hx⟩ : ∃ x, l[j] = x := ⟨_, rfl⟩
      rw [hx] at hg hcell ⊢
      obtain ⟨⟨g1, g2⟩, ⟨g3, g4⟩, ⟨g5, g6⟩, ⟨g7, g8⟩, ⟨g9, g10⟩, ⟨g11, g12⟩, g13, g14⟩ := hg
      have s1 : IntKind.i64.wrap (x.tick - x.err) = x.tick - x.err := IntWalk.i64_in _ (by omega)
      have s2 : IntKind.i64.wrap (x.tick + x.err) = x.tick + x.err := IntWalk.i64_in _ (by omega)
      have Hcell := Lib.hid hcell
      have Hfj := Lib.hid hfj
      clear hcell hx hfj
      go_enter Try.func25, Try.ntmps25
      go_wp2_with fail
      refine (l7Find_any A l.length c l id _ w.heap.size rfl h hl).mono ?_
      rintro e w0 ⟨rfl, rfl⟩
      rw [Hfj.out]
      go_wp2_with fail
      refine (l7Good_any A c l _ h hl hc).mono ?_
      rintro e w1 ⟨rfl, hb1⟩
      rw [hp]
      have hB1 := hb1
      obtain ⟨b', off', e', hb', d0, d1, d2, d3, d4, d5, d6⟩ := Hcell.out w1 (h.after hb1)
      subst e'
      go_wp2_with fail
      go_quiet ((first | (go_at_call 76; exact quiet_left (l1Most_any _ _ _)) | (go_at_call 77; exact quiet_left (l1Least_any _ _ _))))
      all_goals go_wp2
      all_goals
        go_ret3
        exact ⟨ret_ii (by omega) (by omega), below_drewN hB1 _⟩
    · have hk : okWi l id = false := by simp [okWi, h0]
      have hlt : findP l id < 0 := by omega
      simp only [hk, Bool.false_eq_true, if_false]
      clear hk hfb h0
      obtain ⟨r, hr⟩ : ∃ r, findP l id = r := ⟨_, rfl⟩
      rw [hr] at hlt
      have Hr := Lib.hid hr
      clear hr
      go_enter Try.func25, Try.ntmps25
      go_wp2_with fail
      refine (l7Find_any A l.length c l id _ w.heap.size rfl h hl).mono ?_
      rintro e w0 ⟨rfl, rfl⟩
      rw [Hr.out]
      go_wp2_with fail
      refine (l7Good_any A c l _ h hl hc).mono ?_
      rintro e w1 ⟨rfl, hb1⟩
      rw [hp]
      go_wp2
      go_ret3
      exact ⟨rfl, hb1⟩

end Go.Proofs.Ytiakaglgfboepaa
