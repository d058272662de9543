/-
  Contracts of the exported functions over models.
-/
import Derived.Test.YtadaaooldlaahaaFirst
namespace Go.Proofs.Ytadaaooldlaahaa
set_option linter.unusedVariables false
open Go.RowKit

theorem tTo_bd {l : List Earth} (h : Oks l) (h5 : l.length ≤ 5) (d : Int) (hd : 0 ≤ d) : 0 ≤ (tTo l d).1 ∧ (tTo l d).1 ≤ 6250000000 ∧ 0 < (tTo l d).2.1 ∧ (tTo l d).2.1 ≤ 312500000 := by
  have hi := tTo_inv h d hd l.length (Nat.le_refl _)
  rw [List.take_length] at hi
  obtain ⟨i1, i2, i3, i4, _, _⟩ := hi
  have hp : (50 : Int) ^ l.length ≤ 312500000 := by
    match l.length, h5 with
    | 0, _ => decide
    | 1, _ => decide
    | 2, _ => decide
    | 3, _ => decide
    | 4, _ => decide
    | 5, _ => decide
  have hp2 : 200 * (l.length : Int) * 50 ^ l.length ≤ 312500000000 := by
    have h0 := pow50_pos l.length
    have : 200 * (l.length : Int) * 50 ^ l.length ≤ 1000 * 50 ^ l.length := Int.mul_le_mul_of_nonneg_right (by omega) (by omega)
    omega
  exact ⟨i1, by omega, i3, by omega⟩

theorem depthL_all {l : List Earth} (h : Oks l) (h5 : l.length ≤ 5) : 0 ≤ depthL l ∧ depthL l ≤ 1000 := by
  have := depthL_bd h l.length (Nat.le_refl _)
  rw [List.take_length] at this
  omega

def okTT (l : List Earth) (d : Int) : Bool := goodE l && inB d 0 (depthL l)
def TTn (l : List Earth) (d : Int) : Int := if okTT l d then (tTo l d).1 else 0
def TTd (l : List Earth) (d : Int) : Int := if okTT l d then (tTo l d).2.1 else 0

theorem TimeTo_any (A : Option Addr) (c : Nat) (l : List Earth) (d : Int) (w : World) (h : Rd encE 2 w w.heap.size A l) (hl : l.length ≤ 1048576) :
    Calls Try.prog 22 #[.slice A l.length c, .int .i64 d] w fun e w' => e = .returned (.tuple #[.int .i64 (TTn l d), .int .i64 (TTd l d), .bool (okTT l d)]) ∧ Below w.heap.size w w' := by
  unfold TTn TTd
  cases hg : goodE l with
  | true =>
    obtain ⟨ho, hl1, hl5⟩ := good_oks hg
    have hda := depthL_all ho hl5
    cases hi : inB d 0 (depthL l) with
    | true =>
      have hk : okTT l d = true := by simp [okTT, hg, hi]
      simp only [hk, if_true]
      have hd := inB_iff.1 hi
      go_enter Try.func22, Try.ntmps22
      go_wp2_with (first | (go_at_call 17; refine (IsModel_any A c l _ h hl).mono ?_; rintro e w1 ⟨rfl, hb1⟩) | (go_at_call 49; refine (depthOf_any A _ c l _ rfl (h.after hb1) ho hl5).mono ?_; rintro e w2 ⟨rfl, hb2⟩) | (go_at_call 44; refine (in_any _ _ _ _).mono ?_; rintro e w' ⟨rfl, rfl⟩) | (go_at_call 52; refine (timeTo_any A c l d _ ((h.after hb1).after hb2) ho hl5 (by omega) (by omega)).mono ?_; rintro e w3 ⟨rfl, hb3⟩))
      go_ret3
      exact ⟨rfl, (hb1.trans (hb2.mono hb1.size)).trans (hb3.mono (Nat.le_trans hb1.size hb2.size))⟩
    | false =>
      have hk : okTT l d = false := by simp [okTT, hi]
      simp only [hk, Bool.false_eq_true, if_false]
      go_enter Try.func22, Try.ntmps22
      go_wp2_with (first | (go_at_call 17; refine (IsModel_any A c l _ h hl).mono ?_; rintro e w1 ⟨rfl, hb1⟩) | (go_at_call 49; refine (depthOf_any A _ c l _ rfl (h.after hb1) ho hl5).mono ?_; rintro e w2 ⟨rfl, hb2⟩) | (go_at_call 44; refine (in_any _ _ _ _).mono ?_; rintro e w' ⟨rfl, rfl⟩))
      go_ret3
      exact ⟨rfl, (hb1.trans (hb2.mono hb1.size))⟩
  | false =>
    have hk : okTT l d = false := by simp [okTT, hg]
    simp only [hk, Bool.false_eq_true, if_false]
    go_enter Try.func22, Try.ntmps22
    go_wp2_with (first | (go_at_call 17; refine (IsModel_any A c l _ h hl).mono ?_; rintro e w1 ⟨rfl, hb1⟩))
    go_ret3
    exact ⟨rfl, hb1⟩

theorem sTimeTo_any (A : Option Addr) (c : Nat) (l : List Earth) (d : Int) (w : World) (h : Rd encE 2 w w.heap.size A l) (hl : l.length ≤ 1048576) :
    Calls Try.prog 21 #[.slice A l.length c, .int .i64 d] w fun e w' => e = .returned (.tuple #[.int .i64 (TTn l d), .int .i64 (TTd l d), .bool (okTT l d)]) ∧ Below w.heap.size w w' := by
  unfold TTn TTd
  cases hg : goodE l with
  | true =>
    obtain ⟨ho, hl1, hl5⟩ := good_oks hg
    have hda := depthL_all ho hl5
    cases hi : inB d 0 (depthL l) with
    | true =>
      have hk : okTT l d = true := by simp [okTT, hg, hi]
      simp only [hk, if_true]
      have hd := inB_iff.1 hi
      go_enter Try.func21, Try.ntmps21
      go_wp2_with (first | (go_at_call 42; refine (l8Good_any A c l _ _ h hl).mono ?_; rintro e w1 ⟨rfl, rfl⟩) | (go_at_call 48; refine (l8Depth_any A _ c l _ _ rfl h ho hl5).mono ?_; rintro e w2 ⟨rfl, rfl⟩) | (go_at_call 50; refine (l1In_any _ _ _ _).mono ?_; rintro e w' ⟨rfl, rfl⟩) | (go_at_call 51; refine (l8To_any A c l d _ _ h ho hl5 (by omega) (by omega)).mono ?_; rintro e w3 ⟨rfl, hb3⟩))
      go_ret3
      exact ⟨rfl, below_of_drew hb3⟩
    | false =>
      have hk : okTT l d = false := by simp [okTT, hi]
      simp only [hk, Bool.false_eq_true, if_false]
      go_enter Try.func21, Try.ntmps21
      go_wp2_with (first | (go_at_call 42; refine (l8Good_any A c l _ _ h hl).mono ?_; rintro e w1 ⟨rfl, rfl⟩) | (go_at_call 48; refine (l8Depth_any A _ c l _ _ rfl h ho hl5).mono ?_; rintro e w2 ⟨rfl, rfl⟩) | (go_at_call 50; refine (l1In_any _ _ _ _).mono ?_; rintro e w' ⟨rfl, rfl⟩))
      go_ret3
      exact ⟨rfl, Below.refl _ _⟩
  | false =>
    have hk : okTT l d = false := by simp [okTT, hg]
    simp only [hk, Bool.false_eq_true, if_false]
    go_enter Try.func21, Try.ntmps21
    go_wp2_with (first | (go_at_call 42; refine (l8Good_any A c l _ _ h hl).mono ?_; rintro e w1 ⟨rfl, rfl⟩))
    go_ret3
    exact ⟨rfl, Below.refl _ _⟩

def okMS (l : List Earth) (d : Int) : Bool := goodE l && inB d 1 (depthL l)
def MSn (l : List Earth) (d : Int) : Int := if okMS l d then redN (d * (tTo l d).2.1) (tTo l d).1 else 0
def MSd (l : List Earth) (d : Int) : Int := if okMS l d then redD (d * (tTo l d).2.1) (tTo l d).1 else 0

theorem MeanSpeedTo_any (A : Option Addr) (c : Nat) (l : List Earth) (d : Int) (w : World) (h : Rd encE 2 w w.heap.size A l) (hl : l.length ≤ 1048576) :
    Calls Try.prog 24 #[.slice A l.length c, .int .i64 d] w fun e w' => e = .returned (.tuple #[.int .i64 (MSn l d), .int .i64 (MSd l d), .bool (okMS l d)]) ∧ Below w.heap.size w w' := by
  unfold MSn MSd
  cases hg : goodE l with
  | true =>
    obtain ⟨ho, hl1, hl5⟩ := good_oks hg
    have hda := depthL_all ho hl5
    cases hi : inB d 1 (depthL l) with
    | true =>
      have hk : okMS l d = true := by simp [okMS, hg, hi]
      simp only [hk, if_true]
      have hd := inB_iff.1 hi
      obtain ⟨t1, t2, t3, t4⟩ := tTo_bd ho hl5 d (by omega)
      have hpos := tTo_pos ho d hd.1 l.length hl1 (Nat.le_refl _)
      rw [List.take_length] at hpos
      have hti := fun W hW => timeTo_any A c l d W hW ho hl5 (by omega) (by omega)
      generalize tTo l d = s at *
      obtain ⟨n, q, r⟩ := s
      simp only at *
      have p1 : 0 ≤ d * q := Int.mul_nonneg (by omega) (by omega)
      have p2 : d * q ≤ 1000 * q := Int.mul_le_mul_of_nonneg_right (by omega) (by omega)
      have Hti := Lib.hid hti
      clear hti
      go_enter Try.func24, Try.ntmps24
      go_wp2_with (first | (go_at_call 17; refine (IsModel_any A c l _ h hl).mono ?_; rintro e w1 ⟨rfl, hb1⟩) | (go_at_call 49; refine (depthOf_any A _ c l _ rfl (h.after hb1) ho hl5).mono ?_; rintro e w2 ⟨rfl, hb2⟩) | (go_at_call 44; refine (in_any _ _ _ _).mono ?_; rintro e w' ⟨rfl, rfl⟩) | (go_at_call 52; refine (Hti.out _ ((h.after hb1).after hb2)).mono ?_; rintro e w3 ⟨rfl, hb3⟩) | (go_at_call 54; refine (fraction_any (d * q) n _ p1 hpos (by omega) (by omega)).mono ?_; rintro e w4 ⟨rfl, hb4⟩))
      go_ret3
      exact ⟨rfl, ((hb1.trans (hb2.mono hb1.size)).trans (hb3.mono (Nat.le_trans hb1.size hb2.size))).trans (below_of_drew hb4)⟩
    | false =>
      have hk : okMS l d = false := by simp [okMS, hi]
      simp only [hk, Bool.false_eq_true, if_false]
      go_enter Try.func24, Try.ntmps24
      go_wp2_with (first | (go_at_call 17; refine (IsModel_any A c l _ h hl).mono ?_; rintro e w1 ⟨rfl, hb1⟩) | (go_at_call 49; refine (depthOf_any A _ c l _ rfl (h.after hb1) ho hl5).mono ?_; rintro e w2 ⟨rfl, hb2⟩) | (go_at_call 44; refine (in_any _ _ _ _).mono ?_; rintro e w' ⟨rfl, rfl⟩))
      go_ret3
      exact ⟨rfl, (hb1.trans (hb2.mono hb1.size))⟩
  | false =>
    have hk : okMS l d = false := by simp [okMS, hg]
    simp only [hk, Bool.false_eq_true, if_false]
    go_enter Try.func24, Try.ntmps24
    go_wp2_with (first | (go_at_call 17; refine (IsModel_any A c l _ h hl).mono ?_; rintro e w1 ⟨rfl, hb1⟩))
    go_ret3
    exact ⟨rfl, hb1⟩

theorem sMeanSpeedTo_any (A : Option Addr) (c : Nat) (l : List Earth) (d : Int) (w : World) (h : Rd encE 2 w w.heap.size A l) (hl : l.length ≤ 1048576) :
    Calls Try.prog 23 #[.slice A l.length c, .int .i64 d] w fun e w' => e = .returned (.tuple #[.int .i64 (MSn l d), .int .i64 (MSd l d), .bool (okMS l d)]) ∧ Below w.heap.size w w' := by
  unfold MSn MSd
  cases hg : goodE l with
  | true =>
    obtain ⟨ho, hl1, hl5⟩ := good_oks hg
    have hda := depthL_all ho hl5
    cases hi : inB d 1 (depthL l) with
    | true =>
      have hk : okMS l d = true := by simp [okMS, hg, hi]
      simp only [hk, if_true]
      have hd := inB_iff.1 hi
      obtain ⟨t1, t2, t3, t4⟩ := tTo_bd ho hl5 d (by omega)
      have hpos := tTo_pos ho d hd.1 l.length hl1 (Nat.le_refl _)
      rw [List.take_length] at hpos
      have hti := l8To_any A c l d w _ h ho hl5 (by omega) (by omega)
      generalize tTo l d = s at *
      obtain ⟨n, q, r⟩ := s
      simp only at *
      have p1 : 0 ≤ d * q := Int.mul_nonneg (by omega) (by omega)
      have p2 : d * q ≤ 1000 * q := Int.mul_le_mul_of_nonneg_right (by omega) (by omega)
      have Hti := Lib.hid hti
      clear hti
      go_enter Try.func23, Try.ntmps23
      go_wp2_with (first | (go_at_call 42; refine (l8Good_any A c l _ _ h hl).mono ?_; rintro e w1 ⟨rfl, rfl⟩) | (go_at_call 48; refine (l8Depth_any A _ c l _ _ rfl h ho hl5).mono ?_; rintro e w2 ⟨rfl, rfl⟩) | (go_at_call 50; refine (l1In_any _ _ _ _).mono ?_; rintro e w' ⟨rfl, rfl⟩) | (go_at_call 51; refine Hti.out.mono ?_; rintro e w3 ⟨rfl, hb3⟩) | (go_at_call 53; refine (l2Reduce_any (d * q) n _ p1 hpos (by omega) (by omega)).mono ?_; rintro e w4 ⟨rfl, hb4⟩))
      go_ret3
      exact ⟨rfl, (below_of_drew hb3).trans (below_of_drew hb4)⟩
    | false =>
      have hk : okMS l d = false := by simp [okMS, hi]
      simp only [hk, Bool.false_eq_true, if_false]
      go_enter Try.func23, Try.ntmps23
      go_wp2_with (first | (go_at_call 42; refine (l8Good_any A c l _ _ h hl).mono ?_; rintro e w1 ⟨rfl, rfl⟩) | (go_at_call 48; refine (l8Depth_any A _ c l _ _ rfl h ho hl5).mono ?_; rintro e w2 ⟨rfl, rfl⟩) | (go_at_call 50; refine (l1In_any _ _ _ _).mono ?_; rintro e w' ⟨rfl, rfl⟩))
      go_ret3
      exact ⟨rfl, Below.refl _ _⟩
  | false =>
    have hk : okMS l d = false := by simp [okMS, hg]
    simp only [hk, Bool.false_eq_true, if_false]
    go_enter Try.func23, Try.ntmps23
    go_wp2_with (first | (go_at_call 42; refine (l8Good_any A c l _ _ h hl).mono ?_; rintro e w1 ⟨rfl, rfl⟩))
    go_ret3
    exact ⟨rfl, Below.refl _ _⟩

theorem isReach_any (d : Int) (w : World) : Calls Try.prog 57 #[.int .i64 d] w fun e w' => e = .returned (.bool (inB d 0 2000)) ∧ w = w' := by
  go_enter Try.func57, Try.ntmps57
  go_wp2_with (go_at_call 44; refine (in_any _ _ _ _).mono ?_; rintro e w' ⟨rfl, rfl⟩)
  go_ret
  exact ⟨rfl, rfl⟩

theorem l8Far_any (A : Option Addr) (c : Nat) (l : List Earth) (d : Int) (w : World) (B : Nat) (h : Rd encE 2 w B A l) (hl : l.length ≤ 1048576) :
    Calls Try.prog 55 #[.slice A l.length c, .int .i64 d] w fun e w' => e = .returned (.bool (goodE l && inB d 0 2000)) ∧ w = w' := by
  cases hg : goodE l with
  | true =>
    go_enter Try.func55, Try.ntmps55
    go_wp2_with (first | (go_at_call 42; refine (l8Good_any A c l _ _ h hl).mono ?_; rintro e w1 ⟨rfl, rfl⟩) | (go_at_call 50; refine (l1In_any _ _ _ _).mono ?_; rintro e w' ⟨rfl, rfl⟩))
    go_ret
    exact ⟨ret_bool (by simp), rfl⟩
  | false =>
    go_enter Try.func55, Try.ntmps55
    go_wp2_with (first | (go_at_call 42; refine (l8Good_any A c l _ _ h hl).mono ?_; rintro e w1 ⟨rfl, rfl⟩))
    go_ret
    exact ⟨ret_bool (by simp), rfl⟩

end Go.Proofs.Ytadaaooldlaahaa
