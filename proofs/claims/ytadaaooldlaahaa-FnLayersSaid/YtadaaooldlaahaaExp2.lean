/-
  Contracts of the exported functions over models: via a layer, the first, overtaking, reach.
-/
import Derived.Test.YtadaaooldlaahaaExp
namespace Go.Proofs.Ytadaaooldlaahaa
set_option linter.unusedVariables false
open Go.RowKit

def okTV (l : List Earth) (k d : Int) : Bool := goodE l && inB k 0 ((l.length : Int) - 1) && inB d 0 2000
def TVn (l : List Earth) (k d : Int) : Int := if okTV l k d then viaN l k.toNat d else 0
def TVd (l : List Earth) (k d : Int) : Int := if okTV l k d then viaD l k.toNat d else 0

theorem TimeVia_any (A : Option Addr) (c : Nat) (l : List Earth) (k d : Int) (w : World) (h : Rd encE 2 w w.heap.size A l) (hl : l.length ≤ 1048576) (hc : l.length ≤ c ∧ c ≤ maxLen) :
    Calls Try.prog 26 #[.slice A l.length c, .int .i64 k, .int .i64 d] w fun e w' => e = .returned (.tuple #[.int .i64 (TVn l k d), .int .i64 (TVd l k d), .bool (okTV l k d)]) ∧ Below w.heap.size w w' := by
  unfold TVn TVd
  cases hg : goodE l with
  | true =>
    obtain ⟨ho, hl1, hl5⟩ := good_oks hg
    cases hi : inB k 0 ((l.length : Int) - 1) with
    | true =>
      cases hj : inB d 0 2000 with
      | true =>
        have hk : okTV l k d = true := by simp [okTV, hg, hi, hj]
        simp only [hk, if_true]
        have hk1 := inB_iff.1 hi
        have hd := inB_iff.1 hj
        obtain ⟨kn, rfl⟩ := Int.eq_ofNat_of_zero_le hk1.1
        rw [Int.toNat_natCast]
        go_enter Try.func26, Try.ntmps26
        go_wp2_with (first | (go_at_call 17; refine (IsModel_any A c l _ h hl).mono ?_; rintro e w1 ⟨rfl, hb1⟩) | (go_at_call 44; refine (in_any _ _ _ _).mono ?_; rintro e w' ⟨rfl, rfl⟩) | (go_at_call 57; refine (isReach_any _ _).mono ?_; rintro e w' ⟨rfl, rfl⟩) | (go_at_call 58; refine (timeVia_any A c l kn d _ (h.after hb1) ho hl5 hc (by omega) (by omega) (by omega)).mono ?_; rintro e w3 ⟨rfl, hb3⟩))
        go_ret3
        exact ⟨rfl, hb1.trans (hb3.mono hb1.size)⟩
      | false =>
        have hk : okTV l k d = false := by simp [okTV, hj]
        simp only [hk, Bool.false_eq_true, if_false]
        go_enter Try.func26, Try.ntmps26
        go_wp2_with (first | (go_at_call 17; refine (IsModel_any A c l _ h hl).mono ?_; rintro e w1 ⟨rfl, hb1⟩) | (go_at_call 44; refine (in_any _ _ _ _).mono ?_; rintro e w' ⟨rfl, rfl⟩) | (go_at_call 57; refine (isReach_any _ _).mono ?_; rintro e w' ⟨rfl, rfl⟩))
        go_ret3
        exact ⟨rfl, hb1⟩
    | false =>
      have hk : okTV l k d = false := by simp [okTV, hi]
      simp only [hk, Bool.false_eq_true, if_false]
      go_enter Try.func26, Try.ntmps26
      go_wp2_with (first | (go_at_call 17; refine (IsModel_any A c l _ h hl).mono ?_; rintro e w1 ⟨rfl, hb1⟩) | (go_at_call 44; refine (in_any _ _ _ _).mono ?_; rintro e w' ⟨rfl, rfl⟩))
      go_ret3
      exact ⟨rfl, hb1⟩
  | false =>
    have hk : okTV l k d = false := by simp [okTV, hg]
    simp only [hk, Bool.false_eq_true, if_false]
    go_enter Try.func26, Try.ntmps26
    go_wp2_with (first | (go_at_call 17; refine (IsModel_any A c l _ h hl).mono ?_; rintro e w1 ⟨rfl, hb1⟩))
    go_ret3
    exact ⟨rfl, hb1⟩

theorem sTimeVia_any (A : Option Addr) (c : Nat) (l : List Earth) (k d : Int) (w : World) (h : Rd encE 2 w w.heap.size A l) (hl : l.length ≤ 1048576) (hc : l.length ≤ c ∧ c ≤ maxLen) :
    Calls Try.prog 25 #[.slice A l.length c, .int .i64 k, .int .i64 d] w fun e w' => e = .returned (.tuple #[.int .i64 (TVn l k d), .int .i64 (TVd l k d), .bool (okTV l k d)]) ∧ Below w.heap.size w w' := by
  unfold TVn TVd
  cases hgf : (goodE l && inB d 0 2000) with
  | true =>
    have hg : goodE l = true := by simp at hgf; exact hgf.1
    have hj : inB d 0 2000 = true := by simp at hgf; exact hgf.2
    obtain ⟨ho, hl1, hl5⟩ := good_oks hg
    cases hi : inB k 0 ((l.length : Int) - 1) with
    | true =>
      have hk : okTV l k d = true := by simp [okTV, hg, hi, hj]
      simp only [hk, if_true]
      have hk1 := inB_iff.1 hi
      have hd := inB_iff.1 hj
      obtain ⟨kn, rfl⟩ := Int.eq_ofNat_of_zero_le hk1.1
      rw [Int.toNat_natCast]
      have hfar := fun W (hW : Rd encE 2 W W.heap.size A l) => l8Far_any A c l d W _ hW hl
      rw [hgf] at hfar
      have Hfar := Lib.hid hfar
      clear hfar hgf
      go_enter Try.func25, Try.ntmps25
      go_wp2_with (first | (go_at_call 55; refine (Hfar.out _ h).mono ?_; rintro e w1 ⟨rfl, rfl⟩) | (go_at_call 50; refine (l1In_any _ _ _ _).mono ?_; rintro e w' ⟨rfl, rfl⟩) | (go_at_call 56; refine (l8Via_any A c l kn d _ h ho hl5 hc (by omega) (by omega) (by omega)).mono ?_; rintro e w3 ⟨rfl, hb3⟩))
      go_ret3
      exact ⟨rfl, hb3⟩
    | false =>
      have hk : okTV l k d = false := by simp [okTV, hi]
      simp only [hk, Bool.false_eq_true, if_false]
      have hfar := fun W (hW : Rd encE 2 W W.heap.size A l) => l8Far_any A c l d W _ hW hl
      rw [hgf] at hfar
      have Hfar := Lib.hid hfar
      clear hfar hgf
      go_enter Try.func25, Try.ntmps25
      go_wp2_with (first | (go_at_call 55; refine (Hfar.out _ h).mono ?_; rintro e w1 ⟨rfl, rfl⟩) | (go_at_call 50; refine (l1In_any _ _ _ _).mono ?_; rintro e w' ⟨rfl, rfl⟩))
      go_ret3
      exact ⟨rfl, Below.refl _ _⟩
  | false =>
    have hk : okTV l k d = false := by
      cases h1 : goodE l <;> cases h2 : inB d 0 2000 <;> simp_all [okTV]
    simp only [hk, Bool.false_eq_true, if_false]
    have hfar := fun W (hW : Rd encE 2 W W.heap.size A l) => l8Far_any A c l d W _ hW hl
    rw [hgf] at hfar
    have Hfar := Lib.hid hfar
    clear hfar hgf
    go_enter Try.func25, Try.ntmps25
    go_wp2_with (first | (go_at_call 55; refine (Hfar.out _ h).mono ?_; rintro e w1 ⟨rfl, rfl⟩))
    go_ret3
    exact ⟨rfl, Below.refl _ _⟩

def okF (l : List Earth) (d : Int) : Bool := goodE l && inB d 0 2000
def FVk (l : List Earth) (d : Int) : Int := if okF l d then (bst l d (l.length - 1) : Int) else 0
def FTn (l : List Earth) (d : Int) : Int := if okF l d then fstN l d else 0
def FTd (l : List Earth) (d : Int) : Int := if okF l d then fstD l d else 0

theorem FirstVia_any (A : Option Addr) (c : Nat) (l : List Earth) (d : Int) (w : World) (h : Rd encE 2 w w.heap.size A l) (hl : l.length ≤ 1048576) (hc : l.length ≤ c ∧ c ≤ maxLen) :
    Calls Try.prog 28 #[.slice A l.length c, .int .i64 d] w fun e w' => e = .returned (.tuple #[.int .i64 (FVk l d), .bool (okF l d)]) ∧ Below w.heap.size w w' := by
  unfold FVk
  cases hg : goodE l with
  | true =>
    obtain ⟨ho, hl1, hl5⟩ := good_oks hg
    cases hj : inB d 0 2000 with
    | true =>
      have hk : okF l d = true := by simp [okF, hg, hj]
      simp only [hk, if_true]
      have hd := inB_iff.1 hj
      go_enter Try.func28, Try.ntmps28
      go_wp2_with (first | (go_at_call 17; refine (IsModel_any A c l _ h hl).mono ?_; rintro e w1 ⟨rfl, hb1⟩) | (go_at_call 57; refine (isReach_any _ _).mono ?_; rintro e w' ⟨rfl, rfl⟩) | (go_at_call 60; refine (firstVia_any A _ c l d _ rfl (h.after hb1) ho hl1 hl5 hc (by omega) (by omega)).mono ?_; rintro e w3 ⟨rfl, hb3⟩))
      go_ret2
      exact ⟨rfl, hb1.trans (hb3.mono hb1.size)⟩
    | false =>
      have hk : okF l d = false := by simp [okF, hj]
      simp only [hk, Bool.false_eq_true, if_false]
      go_enter Try.func28, Try.ntmps28
      go_wp2_with (first | (go_at_call 17; refine (IsModel_any A c l _ h hl).mono ?_; rintro e w1 ⟨rfl, hb1⟩) | (go_at_call 57; refine (isReach_any _ _).mono ?_; rintro e w' ⟨rfl, rfl⟩))
      go_ret2
      exact ⟨rfl, hb1⟩
  | false =>
    have hk : okF l d = false := by simp [okF, hg]
    simp only [hk, Bool.false_eq_true, if_false]
    go_enter Try.func28, Try.ntmps28
    go_wp2_with (first | (go_at_call 17; refine (IsModel_any A c l _ h hl).mono ?_; rintro e w1 ⟨rfl, hb1⟩))
    go_ret2
    exact ⟨rfl, hb1⟩

theorem FirstTime_any (A : Option Addr) (c : Nat) (l : List Earth) (d : Int) (w : World) (h : Rd encE 2 w w.heap.size A l) (hl : l.length ≤ 1048576) (hc : l.length ≤ c ∧ c ≤ maxLen) :
    Calls Try.prog 30 #[.slice A l.length c, .int .i64 d] w fun e w' => e = .returned (.tuple #[.int .i64 (FTn l d), .int .i64 (FTd l d), .bool (okF l d)]) ∧ Below w.heap.size w w' := by
  unfold FTn FTd
  cases hg : goodE l with
  | true =>
    obtain ⟨ho, hl1, hl5⟩ := good_oks hg
    cases hj : inB d 0 2000 with
    | true =>
      have hk : okF l d = true := by simp [okF, hg, hj]
      simp only [hk, if_true]
      have hd := inB_iff.1 hj
      go_enter Try.func30, Try.ntmps30
      go_wp2_with (first | (go_at_call 17; refine (IsModel_any A c l _ h hl).mono ?_; rintro e w1 ⟨rfl, hb1⟩) | (go_at_call 57; refine (isReach_any _ _).mono ?_; rintro e w' ⟨rfl, rfl⟩) | (go_at_call 60; refine (firstVia_any A _ c l d _ rfl (h.after hb1) ho hl1 hl5 hc (by omega) (by omega)).mono ?_; rintro e w3 ⟨rfl, hb3⟩))
      go_ret3
      exact ⟨rfl, hb1.trans (hb3.mono hb1.size)⟩
    | false =>
      have hk : okF l d = false := by simp [okF, hj]
      simp only [hk, Bool.false_eq_true, if_false]
      go_enter Try.func30, Try.ntmps30
      go_wp2_with (first | (go_at_call 17; refine (IsModel_any A c l _ h hl).mono ?_; rintro e w1 ⟨rfl, hb1⟩) | (go_at_call 57; refine (isReach_any _ _).mono ?_; rintro e w' ⟨rfl, rfl⟩))
      go_ret3
      exact ⟨rfl, hb1⟩
  | false =>
    have hk : okF l d = false := by simp [okF, hg]
    simp only [hk, Bool.false_eq_true, if_false]
    go_enter Try.func30, Try.ntmps30
    go_wp2_with (first | (go_at_call 17; refine (IsModel_any A c l _ h hl).mono ?_; rintro e w1 ⟨rfl, hb1⟩))
    go_ret3
    exact ⟨rfl, hb1⟩

theorem sFirstVia_any (A : Option Addr) (c : Nat) (l : List Earth) (d : Int) (w : World) (h : Rd encE 2 w w.heap.size A l) (hl : l.length ≤ 1048576) (hc : l.length ≤ c ∧ c ≤ maxLen) :
    Calls Try.prog 27 #[.slice A l.length c, .int .i64 d] w fun e w' => e = .returned (.tuple #[.int .i64 (FVk l d), .bool (okF l d)]) ∧ Below w.heap.size w w' := by
  unfold FVk
  have hfar := fun W (hW : Rd encE 2 W W.heap.size A l) => l8Far_any A c l d W _ hW hl
  cases hk : okF l d with
  | true =>
    have hgf : (goodE l && inB d 0 2000) = true := hk
    have hg : goodE l = true := by simp at hgf; exact hgf.1
    have hj : inB d 0 2000 = true := by simp at hgf; exact hgf.2
    obtain ⟨ho, hl1, hl5⟩ := good_oks hg
    have hd := inB_iff.1 hj
    rw [hgf] at hfar
    simp only [if_true]
    have Hfar := Lib.hid hfar
    clear hfar hgf hk
    go_enter Try.func27, Try.ntmps27
    go_wp2_with (first | (go_at_call 55; refine (Hfar.out _ h).mono ?_; rintro e w1 ⟨rfl, rfl⟩) | (go_at_call 59; refine (l8First_any A c l.length l d _ h ho hl5 hc hl1 (Nat.le_refl _) (by omega) (by omega)).mono ?_; rintro e w3 ⟨rfl, hb3⟩))
    go_ret2
    exact ⟨rfl, hb3⟩
  | false =>
    have hgf : (goodE l && inB d 0 2000) = false := hk
    rw [hgf] at hfar
    simp only [Bool.false_eq_true, if_false]
    have Hfar := Lib.hid hfar
    clear hfar hgf hk
    go_enter Try.func27, Try.ntmps27
    go_wp2_with (first | (go_at_call 55; refine (Hfar.out _ h).mono ?_; rintro e w1 ⟨rfl, rfl⟩))
    go_ret2
    exact ⟨rfl, Below.refl _ _⟩

theorem sFirstTime_any (A : Option Addr) (c : Nat) (l : List Earth) (d : Int) (w : World) (h : Rd encE 2 w w.heap.size A l) (hl : l.length ≤ 1048576) (hc : l.length ≤ c ∧ c ≤ maxLen) :
    Calls Try.prog 29 #[.slice A l.length c, .int .i64 d] w fun e w' => e = .returned (.tuple #[.int .i64 (FTn l d), .int .i64 (FTd l d), .bool (okF l d)]) ∧ Below w.heap.size w w' := by
  unfold FTn FTd
  have hfar := fun W (hW : Rd encE 2 W W.heap.size A l) => l8Far_any A c l d W _ hW hl
  cases hk : okF l d with
  | true =>
    have hgf : (goodE l && inB d 0 2000) = true := hk
    have hg : goodE l = true := by simp at hgf; exact hgf.1
    have hj : inB d 0 2000 = true := by simp at hgf; exact hgf.2
    obtain ⟨ho, hl1, hl5⟩ := good_oks hg
    have hd := inB_iff.1 hj
    have hble := bst_le l d (l.length - 1)
    rw [hgf] at hfar
    simp only [if_true]
    have Hfar := Lib.hid hfar
    clear hfar hgf hk
    go_enter Try.func29, Try.ntmps29
    go_wp2_with (first | (go_at_call 55; refine (Hfar.out _ h).mono ?_; rintro e w1 ⟨rfl, rfl⟩) | (go_at_call 59; refine (l8First_any A c l.length l d _ h ho hl5 hc hl1 (Nat.le_refl _) (by omega) (by omega)).mono ?_; rintro e w3 ⟨rfl, hb3⟩) | (go_at_call 56; refine (l8Via_any A c l (bst l d (l.length - 1)) d _ (h.after hb3) ho hl5 hc (by omega) (by omega) (by omega)).mono ?_; rintro e w4 ⟨rfl, hb4⟩))
    go_ret3
    exact ⟨rfl, hb3.trans (hb4.mono hb3.size)⟩
  | false =>
    have hgf : (goodE l && inB d 0 2000) = false := hk
    rw [hgf] at hfar
    simp only [Bool.false_eq_true, if_false]
    have Hfar := Lib.hid hfar
    clear hfar hgf hk
    go_enter Try.func29, Try.ntmps29
    go_wp2_with (first | (go_at_call 55; refine (Hfar.out _ h).mono ?_; rintro e w1 ⟨rfl, rfl⟩))
    go_ret3
    exact ⟨rfl, Below.refl _ _⟩

end Go.Proofs.Ytadaaooldlaahaa
