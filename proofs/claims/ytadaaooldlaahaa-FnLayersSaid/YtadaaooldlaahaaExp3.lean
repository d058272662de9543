/-
  Contracts of OvertakesAt and ReachIn.
-/
import Derived.Test.YtadaaooldlaahaaExp2
namespace Go.Proofs.Ytadaaooldlaahaa
set_option linter.unusedVariables false
open Go.RowKit

/-- The smallest distance at which layer m is the first of the fastest of the first m + 1, or -1. -/
def ovI (l : List Earth) (m : Nat) : Int := idxOf (fun j : Nat => bst l j m == m) (List.range 2001)
def okA (l : List Earth) (m : Int) : Bool := goodE l && inB m 1 ((l.length : Int) - 1)
def okOv (l : List Earth) (m : Int) : Bool := okA l m && decide (0 ≤ ovI l m.toNat)
def OVd (l : List Earth) (m : Int) : Int := if okOv l m then ovI l m.toNat else 0

theorem ov_hit (l : List Earth) (m j : Nat) (hj : j < 2001) (h : (bst l j m == m) = true) (h0 : ((List.range 2001).take j).any (fun j : Nat => bst l j m == m) = false) (hA : okA l m = true) : okOv l m = true ∧ OVd l m = j := by
  have e : ovI l m = j := idxOf_hit _ _ j (by simpa using hj) (by simpa using h) h0
  have e1 : okOv l m = true := by simp [okOv, hA, e]
  refine ⟨e1, ?_⟩
  rw [OVd, if_pos e1]
  simpa using e
theorem ov_miss (l : List Earth) (m : Nat) (h0 : (List.range 2001).any (fun j : Nat => bst l j m == m) = false) : okOv l m = false ∧ OVd l m = 0 := by
  have e : ovI l m = -1 := idxOf_miss _ _ h0
  have e1 : okOv l m = false := by simp [okOv, e]
  exact ⟨e1, by rw [OVd, e1]; rfl⟩
theorem ov_step (l : List Earth) (m j : Nat) (hj : j < 2001) (h : (bst l j m == m) = false) (h0 : ((List.range 2001).take j).any (fun j : Nat => bst l j m == m) = false) : ((List.range 2001).take (j + 1)).any (fun j : Nat => bst l j m == m) = false := by
  rw [any_take_succ _ _ j (by simpa using hj), h0]
  simpa using h

set_option maxHeartbeats 400000 in
theorem OvertakesAt_any (A : Option Addr) (c : Nat) (l : List Earth) (m : Int) (w : World) (h : Rd encE 2 w w.heap.size A l) (hl : l.length ≤ 1048576) (hc : l.length ≤ c ∧ c ≤ maxLen) :
    Calls Try.prog 32 #[.slice A l.length c, .int .i64 m] w fun e w' => e = .returned (.tuple #[.int .i64 (OVd l m), .bool (okOv l m)]) ∧ Below w.heap.size w w' := by
  cases hA : okA l m with
  | false =>
    have hk : okOv l m = false := by simp [okOv, hA]
    have hd0 : OVd l m = 0 := by simp [OVd, hk]
    rw [hk, hd0]
    clear hk hd0
    cases hg : goodE l with
    | false =>
      go_enter Try.func32, Try.ntmps32
      go_wp2_with (first | (go_at_call 17; refine (IsModel_any A c l _ h hl).mono ?_; rintro e w1 ⟨rfl, hb1⟩))
      go_ret2
      exact ⟨rfl, hb1⟩
    | true =>
      have hi : inB m 1 ((l.length : Int) - 1) = false := by simpa [okA, hg] using hA
      go_enter Try.func32, Try.ntmps32
      go_wp2_with (first | (go_at_call 17; refine (IsModel_any A c l _ h hl).mono ?_; rintro e w1 ⟨rfl, hb1⟩) | (go_at_call 44; refine (in_any _ _ _ _).mono ?_; rintro e w' ⟨rfl, rfl⟩))
      go_ret2
      exact ⟨rfl, hb1⟩
  | true =>
    have hg : goodE l = true := by simp [okA] at hA; exact hA.1
    have hi : inB m 1 ((l.length : Int) - 1) = true := by simp [okA] at hA; exact hA.2
    obtain ⟨ho, hl1, hl5⟩ := good_oks hg
    have hm := inB_iff.1 hi
    obtain ⟨mn, rfl⟩ := Int.eq_ofNat_of_zero_le (show 0 ≤ m by omega)
    have HA := Lib.hid hA
    clear hA
    obtain ⟨hc1, hc2⟩ := hc
    unfold maxLen at hc2
    go_enter Try.func32, Try.ntmps32
    go_wp2_with (first | (go_at_call 17; refine (IsModel_any A c l _ h hl).mono ?_; rintro e w1 ⟨rfl, hb1⟩) | (go_at_call 44; refine (in_any _ _ _ _).mono ?_; rintro e w' ⟨rfl, rfl⟩))
    clear hg hi
    go_loopw [6] (fun i wr => ∃ j : Nat, j ≤ 2001 ∧ i = .int .i64 j ∧ Hid (((List.range 2001).take j).any (fun j : Nat => bst l j mn == mn) = false) ∧ Below w.heap.size w wr) (fun i _ => 2001 - (intOf i).toNat)
    case atStart => exact ⟨0, by omega, rfl, rfl, hb1⟩
    case round =>
      obtain ⟨j, hj, rfl, hnone, hbl⟩ := hrel
      by_cases hlt : j < 2001
      · have hin : inB (j : Int) 0 2000 = true := inB_iff.2 (by omega)
        have hf := firstVia_any A (mn + 1) c (l.take (mn + 1)) (j : Int) wr (by simp; omega) (((h.below hbl).more hbl.size).take _) (ho.take _) (by simp; omega) (by simp; omega) (by simp [maxLen]; omega) (by omega) (by omega)
        have hlen : (l.take (mn + 1)).length - 1 = mn := by simp; omega
        rw [hlen, bst_take l (mn + 1) j mn (by omega)] at hf
        have hcast : ((mn + 1 : Nat) : Int) = (mn : Int) + 1 := by omega
        have Hf := Lib.hid hf
        have hr := (h.below hbl).more hbl.size
        clear hf hlen
        -- an address where there is one
        have hA0 : ∃ b off, A = some ⟨b, off, none⟩ := by
          obtain ⟨b, off, e, _⟩ := cellsE h (show 0 < l.length by omega)
          exact ⟨b, off, e⟩
        obtain ⟨ab, aoff, rfl⟩ := hA0
        cases hb : (bst l j mn == mn) with
        | true =>
          obtain ⟨r1, r2⟩ := ov_hit l mn j hlt hb hnone.out HA.out
          have hbi : ((bst l j mn : Int) == (mn : Int)) = true := by simp at hb; simp [hb]
          have R1 := Lib.hid r1
          have R2 := Lib.hid r2
          clear r1 r2 hb
          generalize bst l j mn = bb at *
          go_wp2_with (first | (go_at_call 57; refine (isReach_any _ _).mono ?_; rintro e w' ⟨rfl, rfl⟩) | (go_at_call 60; refine Hf.out.mono ?_; rintro e w3 ⟨rfl, hb3⟩))
          go_ret2
          exact ⟨by rw [R1.out, R2.out]; rfl, hbl.trans (hb3.mono hbl.size)⟩
        | false =>
          have hs := ov_step l mn j hlt hb hnone.out
          have hbi : ((bst l j mn : Int) == (mn : Int)) = false := by simp at hb; simp; omega
          have Hs := Lib.hid hs
          clear hs hb
          generalize bst l j mn = bb at *
          go_wp2_with (first | (go_at_call 57; refine (isReach_any _ _).mono ?_; rintro e w' ⟨rfl, rfl⟩) | (go_at_call 60; refine Hf.out.mono ?_; rintro e w3 ⟨rfl, hb3⟩))
          go_roundw
          case rel => exact ⟨j + 1, by omega, by go_num, Hs.out, hbl.trans (hb3.mono hbl.size)⟩
          case measure => simp [intOf]; omega
      · have hin : inB (j : Int) 0 2000 = false := by
          cases hx : inB (j : Int) 0 2000 with
          | false => rfl
          | true => have := inB_iff.1 hx; omega
        have hnn := hnone.out
        rw [List.take_of_length_le (by rw [List.length_range]; omega)] at hnn
        obtain ⟨r1, r2⟩ := ov_miss l mn hnn
        have R1 := Lib.hid r1
        have R2 := Lib.hid r2
        clear r1 r2 hnn
        go_wp2_with (first | (go_at_call 57; refine (isReach_any _ _).mono ?_; rintro e w' ⟨rfl, rfl⟩))
        go_ret2
        exact ⟨by rw [R1.out, R2.out]; rfl, hbl⟩


set_option maxRecDepth 100000 in
set_option maxHeartbeats 400000 in
theorem sOvertakesAt_any (A : Option Addr) (c : Nat) (l : List Earth) (m : Int) (w : World) (h : Rd encE 2 w w.heap.size A l) (hl : l.length ≤ 1048576) (hc : l.length ≤ c ∧ c ≤ maxLen) :
    Calls Try.prog 31 #[.slice A l.length c, .int .i64 m] w fun e w' => e = .returned (.tuple #[.int .i64 (OVd l m), .bool (okOv l m)]) ∧ Below w.heap.size w w' := by
  cases hA : okA l m with
  | false =>
    have hk : okOv l m = false := by simp [okOv, hA]
    have hd0 : OVd l m = 0 := by simp [OVd, hk]
    rw [hk, hd0]
    clear hk hd0
    cases hg : goodE l with
    | false =>
      go_enter Try.func31, Try.ntmps31
      go_wp2_with (first | (go_at_call 42; refine (l8Good_any A c l _ _ h hl).mono ?_; rintro e w1 ⟨rfl, rfl⟩))
      go_ret2
      exact ⟨rfl, Below.refl _ _⟩
    | true =>
      have hi : inB m 1 ((l.length : Int) - 1) = false := by simpa [okA, hg] using hA
      go_enter Try.func31, Try.ntmps31
      go_wp2_with (first | (go_at_call 42; refine (l8Good_any A c l _ _ h hl).mono ?_; rintro e w1 ⟨rfl, rfl⟩) | (go_at_call 50; refine (l1In_any _ _ _ _).mono ?_; rintro e w' ⟨rfl, rfl⟩))
      go_ret2
      exact ⟨rfl, Below.refl _ _⟩
  | true =>
    have hg : goodE l = true := by simp [okA] at hA; exact hA.1
    have hi : inB m 1 ((l.length : Int) - 1) = true := by simp [okA] at hA; exact hA.2
    obtain ⟨ho, hl1, hl5⟩ := good_oks hg
    have hm := inB_iff.1 hi
    obtain ⟨mn, rfl⟩ := Int.eq_ofNat_of_zero_le (show 0 ≤ m by omega)
    have HA := Lib.hid hA
    clear hA
    go_enter Try.func31, Try.ntmps31
    go_wp2_with (first | (go_at_call 42; refine (l8Good_any A c l _ _ h hl).mono ?_; rintro e w1 ⟨rfl, rfl⟩) | (go_at_call 50; refine (l1In_any _ _ _ _).mono ?_; rintro e w' ⟨rfl, rfl⟩))
    clear hg hi
    go_loopw [6] (fun i wr => ∃ j : Nat, j ≤ 2001 ∧ i = .int .i64 j ∧ Hid (((List.range 2001).take j).any (fun j : Nat => bst l j mn == mn) = false) ∧ Below w.heap.size w wr) (fun i _ => 2001 - (intOf i).toNat)
    case atStart => exact ⟨0, by omega, rfl, rfl, Below.refl _ _⟩
    case round =>
      obtain ⟨j, hj, rfl, hnone, hbl⟩ := hrel
      by_cases hlt : j < 2001
      · have hf := l8First_any A c (mn + 1) l (j : Int) wr ((h.below hbl).more hbl.size) ho hl5 hc (by omega) (by omega) (by omega) (by omega)
        have hlen : mn + 1 - 1 = mn := by omega
        have hcast : ((mn + 1 : Nat) : Int) = (mn : Int) + 1 := by omega
        rw [hlen, hcast] at hf
        have Hf := Lib.hid hf
        clear hf hlen hcast
        cases hb : (bst l j mn == mn) with
        | true =>
          obtain ⟨r1, r2⟩ := ov_hit l mn j hlt hb hnone.out HA.out
          have hbi : ((bst l j mn : Int) == (mn : Int)) = true := by simp at hb; simp [hb]
          have R1 := Lib.hid r1
          have R2 := Lib.hid r2
          clear r1 r2 hb
          generalize bst l j mn = bb at *
          go_wp2_with (first | (go_at_call 59; refine Hf.out.mono ?_; rintro e w3 ⟨rfl, hb3⟩))
          go_ret2
          exact ⟨by rw [R1.out, R2.out]; rfl, hbl.trans (hb3.mono hbl.size)⟩
        | false =>
          have hs := ov_step l mn j hlt hb hnone.out
          have hbi : ((bst l j mn : Int) == (mn : Int)) = false := by simp at hb; simp; omega
          have Hs := Lib.hid hs
          clear hs hb
          generalize bst l j mn = bb at *
          go_wp2_with (first | (go_at_call 59; refine Hf.out.mono ?_; rintro e w3 ⟨rfl, hb3⟩))
          go_roundw
          case rel => exact ⟨j + 1, by omega, by go_num, Hs.out, hbl.trans (hb3.mono hbl.size)⟩
          case measure => simp [intOf]; omega
      · have hnn := hnone.out
        rw [List.take_of_length_le (by rw [List.length_range]; omega)] at hnn
        obtain ⟨r1, r2⟩ := ov_miss l mn hnn
        have R1 := Lib.hid r1
        have R2 := Lib.hid r2
        clear r1 r2 hnn
        go_wp2
        go_ret2
        exact ⟨by rw [R1.out, R2.out]; rfl, hbl⟩

def okR (l : List Earth) (sec : Int) : Bool := goodE l && inB sec 0 100000
/-- What ReachIn answers. -/
def RchP (l : List Earth) (sec d : Int) : Prop := if okR l sec then IsReach l sec d else d = 0
theorem RchP.unique {l : List Earth} {sec d d' : Int} (h : RchP l sec d) (h' : RchP l sec d') : d = d' := by
  unfold RchP at h h'
  split at h
  · rename_i hk
    rw [if_pos hk] at h'
    exact h.unique h'
  · rename_i hk
    rw [if_neg hk] at h'
    omega
def Rch (l : List Earth) (sec : Int) (e : Ending) : Prop := ∃ d, e = .returned (.tuple #[.int .i64 d, .bool (okR l sec)]) ∧ RchP l sec d

theorem within_dec {l : List Earth} (ho : Oks l) (hl1 : 1 ≤ l.length) (hl5 : l.length ≤ 5) (sec d : Int) (hs : 0 ≤ sec ∧ sec ≤ 100000) (hd : 0 ≤ d) (hd2 : d ≤ 2001) : 0 ≤ sec * fstD l d ∧ sec * fstD l d ≤ 31250000000000 := by
  obtain ⟨_, _, b3, b4⟩ := fst_bd ho hl1 hl5 d hd hd2
  refine ⟨Int.mul_nonneg hs.1 (by omega), ?_⟩
  have : sec * fstD l d ≤ 100000 * fstD l d := Int.mul_le_mul_of_nonneg_right hs.2 (by omega)
  omega

set_option maxHeartbeats 400000 in
theorem ReachIn_any (A : Option Addr) (c : Nat) (l : List Earth) (sec : Int) (w : World) (h : Rd encE 2 w w.heap.size A l) (hl : l.length ≤ 1048576) (hc : l.length ≤ c ∧ c ≤ maxLen) :
    Calls Try.prog 34 #[.slice A l.length c, .int .i64 sec] w fun e w' => Rch l sec e ∧ Below w.heap.size w w' := by
  cases hA : okR l sec with
  | false =>
    have hfin : Rch l sec (.returned (.tuple #[.int .i64 0, .bool false])) := ⟨0, by rw [hA], by unfold RchP; rw [hA]; rfl⟩
    have Hfin := Lib.hid hfin
    clear hfin
    cases hg : goodE l with
    | false =>
      clear hA
      go_enter Try.func34, Try.ntmps34
      go_wp2_with (first | (go_at_call 17; refine (IsModel_any A c l _ h hl).mono ?_; rintro e w1 ⟨rfl, hb1⟩))
      go_ret2
      exact ⟨Hfin.out, hb1⟩
    | true =>
      have hi : inB sec 0 100000 = false := by simpa [okR, hg] using hA
      clear hA
      go_enter Try.func34, Try.ntmps34
      go_wp2_with (first | (go_at_call 17; refine (IsModel_any A c l _ h hl).mono ?_; rintro e w1 ⟨rfl, hb1⟩) | (go_at_call 44; refine (in_any _ _ _ _).mono ?_; rintro e w' ⟨rfl, rfl⟩))
      go_ret2
      exact ⟨Hfin.out, hb1⟩
  | true =>
    have hg : goodE l = true := by simp [okR] at hA; exact hA.1
    have hi : inB sec 0 100000 = true := by simp [okR] at hA; exact hA.2
    obtain ⟨ho, hl1, hl5⟩ := good_oks hg
    have hs := inB_iff.1 hi
    have HA := Lib.hid hA
    clear hA
    go_enter Try.func34, Try.ntmps34
    go_wp2_with (first | (go_at_call 17; refine (IsModel_any A c l _ h hl).mono ?_; rintro e w1 ⟨rfl, hb1⟩) | (go_at_call 44; refine (in_any _ _ _ _).mono ?_; rintro e w' ⟨rfl, rfl⟩))
    clear hg hi
    go_loopw [6] (fun i wr => ∃ d : Int, -1 ≤ d ∧ d ≤ 2000 ∧ i = .int .i64 d ∧ Hid (∀ d', d < d' → d' ≤ 2000 → ¬ within l sec d') ∧ Below w.heap.size w wr) (fun i _ => (intOf i + 1).toNat)
    case atStart => exact ⟨2000, by omega, by omega, rfl, fun d' h1 h2 => by omega, hb1⟩
    case round =>
      obtain ⟨d, hd1, hd2, rfl, hno, hbl⟩ := hrel
      by_cases hlt : 0 ≤ d
      · have hf := firstVia_any A l.length c l d wr rfl ((h.below hbl).more hbl.size) ho hl1 hl5 hc hlt (by omega)
        obtain ⟨b1, b2, b3, b4⟩ := fst_bd ho hl1 hl5 d hlt (by omega)
        obtain ⟨m1, m2⟩ := within_dec ho hl1 hl5 sec d hs hlt (by omega)
        have Hf := Lib.hid hf
        clear hf
        by_cases hw : fstN l d ≤ sec * fstD l d
        · have hfin : Rch l sec (.returned (.tuple #[.int .i64 d, .bool true])) := ⟨d, by rw [HA.out], by unfold RchP; rw [if_pos HA.out]; exact ⟨hlt, hd2, hw, hno.out⟩⟩
          have Hfin := Lib.hid hfin
          clear hfin
          generalize fstN l d = p at *
          generalize fstD l d = q at *
          go_wp2_with (first | (go_at_call 60; refine Hf.out.mono ?_; rintro e w3 ⟨rfl, hb3⟩))
          go_ret2
          exact ⟨Hfin.out, hbl.trans (hb3.mono hbl.size)⟩
        · have hnx : ∀ d', d - 1 < d' → d' ≤ 2000 → ¬ within l sec d' := by
            intro d' h1 h2
            by_cases he : d' = d
            · subst he; exact hw
            · exact hno.out d' (by omega) h2
          have Hnx := Lib.hid hnx
          clear hnx
          generalize fstN l d = p at *
          generalize fstD l d = q at *
          go_wp2_with (first | (go_at_call 60; refine Hf.out.mono ?_; rintro e w3 ⟨rfl, hb3⟩))
          go_roundw
          case rel => exact ⟨d - 1, by omega, by omega, by go_num, Hnx.out, hbl.trans (hb3.mono hbl.size)⟩
          case measure => simp [intOf]; omega
      · exfalso
        exact hno.out 0 (by omega) (by omega) (within_zero ho hl1 hl5 sec hs.1)

set_option maxHeartbeats 400000 in
theorem sReachIn_any (A : Option Addr) (c : Nat) (l : List Earth) (sec : Int) (w : World) (h : Rd encE 2 w w.heap.size A l) (hl : l.length ≤ 1048576) (hc : l.length ≤ c ∧ c ≤ maxLen) :
    Calls Try.prog 33 #[.slice A l.length c, .int .i64 sec] w fun e w' => Rch l sec e ∧ Below w.heap.size w w' := by
  cases hA : okR l sec with
  | false =>
    have hfin : Rch l sec (.returned (.tuple #[.int .i64 0, .bool false])) := ⟨0, by rw [hA], by unfold RchP; rw [hA]; rfl⟩
    have Hfin := Lib.hid hfin
    clear hfin
    cases hg : goodE l with
    | false =>
      clear hA
      go_enter Try.func33, Try.ntmps33
      go_wp2_with (first | (go_at_call 42; refine (l8Good_any A c l _ _ h hl).mono ?_; rintro e w1 ⟨rfl, rfl⟩))
      go_ret2
      exact ⟨Hfin.out, Below.refl _ _⟩
    | true =>
      have hi : inB sec 0 100000 = false := by simpa [okR, hg] using hA
      clear hA
      go_enter Try.func33, Try.ntmps33
      go_wp2_with (first | (go_at_call 42; refine (l8Good_any A c l _ _ h hl).mono ?_; rintro e w1 ⟨rfl, rfl⟩) | (go_at_call 50; refine (l1In_any _ _ _ _).mono ?_; rintro e w' ⟨rfl, rfl⟩))
      go_ret2
      exact ⟨Hfin.out, Below.refl _ _⟩
  | true =>
    have hg : goodE l = true := by simp [okR] at hA; exact hA.1
    have hi : inB sec 0 100000 = true := by simp [okR] at hA; exact hA.2
    obtain ⟨ho, hl1, hl5⟩ := good_oks hg
    have hs := inB_iff.1 hi
    have HA := Lib.hid hA
    clear hA
    have hz := within_zero ho hl1 hl5 sec hs.1
    have Hz := Lib.hid hz
    clear hz
    go_enter Try.func33, Try.ntmps33
    go_wp2_with (first | (go_at_call 42; refine (l8Good_any A c l _ _ h hl).mono ?_; rintro e w1 ⟨rfl, rfl⟩) | (go_at_call 50; refine (l1In_any _ _ _ _).mono ?_; rintro e w' ⟨rfl, rfl⟩))
    clear hg hi
    go_loopw [6, 7] (fun i j wr => ∃ lo hi : Int, 0 ≤ lo ∧ lo ≤ hi ∧ hi ≤ 2000 ∧ i = .int .i64 lo ∧ j = .int .i64 hi ∧ Hid (within l sec lo) ∧ Hid (∀ d', hi < d' → d' ≤ 2000 → ¬ within l sec d') ∧ Below w.heap.size w wr) (fun i j _ => (intOf j - intOf i).toNat)
    case atStart => exact ⟨0, 2000, by omega, by omega, by omega, rfl, rfl, Hz.out, fun d' h1 h2 => by omega, Below.refl _ _⟩
    case round =>
      obtain ⟨lo, hi, h0, hlh, hh, rfl, rfl, hyes, hno, hbl⟩ := hrel
      by_cases hlt : lo < hi
      · obtain ⟨mid, hmid⟩ : ∃ mid, mid = (lo + hi + 1) / 2 := ⟨_, rfl⟩
        have hm1 : lo < mid := by omega
        have hm2 : mid ≤ hi := by omega
        have hle := bst_le l mid (l.length - 1)
        have hr := (h.below hbl).more hbl.size
        have hf := l8First_any A c l.length l mid wr hr ho hl5 hc hl1 (Nat.le_refl _) (by omega) (by omega)
        have hv := fun W hW => l8Via_any A c l (bst l mid (l.length - 1)) mid W hW ho hl5 hc (by omega) (by omega) (by omega)
        obtain ⟨b1, b2, b3, b4⟩ := fst_bd ho hl1 hl5 mid (by omega) (by omega)
        obtain ⟨m1, m2⟩ := within_dec ho hl1 hl5 sec mid hs (by omega) (by omega)
        change ∀ W, _ → Calls _ _ _ _ (fun e w' => e = .returned (.tuple #[.int .i64 (fstN l mid), .int .i64 (fstD l mid)]) ∧ _) at hv
        have Hf := Lib.hid hf
        have Hv := Lib.hid hv
        have Hmid := Lib.hid hmid
        clear hf hv hmid
        have hq : (lo + hi + 1) / 2 = mid := Hmid.out.symm
        by_cases hw : fstN l mid ≤ sec * fstD l mid
        · have hyes' : within l sec mid := hw
          have Hyes := Lib.hid hyes'
          clear hyes'
          generalize fstN l mid = p at *
          generalize fstD l mid = q at *
          generalize bst l mid (l.length - 1) = bb at *
          go_wp2_with (first | (go_at_call 59; refine Hf.out.mono ?_; rintro e w3 ⟨rfl, hb3⟩) | (go_at_call 56; refine (Hv.out _ (hr.after hb3)).mono ?_; rintro e w4 ⟨rfl, hb4⟩))
          go_roundw
          case rel => exact ⟨mid, hi, by omega, by omega, by omega, rfl, rfl, Hyes.out, hno.out, (hbl.trans (hb3.mono hbl.size)).trans (hb4.mono (Nat.le_trans hbl.size hb3.size))⟩
          case measure => simp [intOf]; omega
        · have hnx : ∀ d', mid - 1 < d' → d' ≤ 2000 → ¬ within l sec d' := by
            intro d' h1 h2 h3
            exact hw (within_mono ho hl1 hl5 sec mid d' (by omega) (by omega) (by omega) h3)
          have Hnx := Lib.hid hnx
          clear hnx
          generalize fstN l mid = p at *
          generalize fstD l mid = q at *
          generalize bst l mid (l.length - 1) = bb at *
          go_wp2_with (first | (go_at_call 59; refine Hf.out.mono ?_; rintro e w3 ⟨rfl, hb3⟩) | (go_at_call 56; refine (Hv.out _ (hr.after hb3)).mono ?_; rintro e w4 ⟨rfl, hb4⟩))
          go_roundw
          case rel => exact ⟨lo, mid - 1, by omega, by omega, by omega, rfl, by go_num, hyes.out, Hnx.out, (hbl.trans (hb3.mono hbl.size)).trans (hb4.mono (Nat.le_trans hbl.size hb3.size))⟩
          case measure => simp [intOf]; omega
      · obtain rfl : hi = lo := by omega
        have hfin : Rch l sec (.returned (.tuple #[.int .i64 hi, .bool true])) := ⟨hi, by rw [HA.out], by unfold RchP; rw [if_pos HA.out]; exact ⟨h0, hh, hyes.out, hno.out⟩⟩
        have Hfin := Lib.hid hfin
        clear hfin
        go_wp2
        go_ret2
        exact ⟨Hfin.out, hbl⟩

end Go.Proofs.Ytadaaooldlaahaa
