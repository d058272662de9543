/-
  Contracts of the functions over travel times.
-/
import Derived.Test.YtadaaooldlaahaaModel
namespace Go.Proofs.Ytadaaooldlaahaa
set_option linter.unusedVariables false
open Go.RowKit

theorem plus_any (a b c d : Int) (w : World) (h1 : 0 ≤ a * d) (h2 : 0 ≤ c * b) (h3 : 0 < b * d) (h4 : a * d + c * b ≤ 9223372036854775807) (h5 : b * d ≤ 9223372036854775807) :
    Calls Try.prog 71 #[.int .i64 a, .int .i64 b, .int .i64 c, .int .i64 d] w fun e w' =>
      e = .returned (.tuple #[.int .i64 (redN (a * d + c * b) (b * d)), .int .i64 (redD (a * d + c * b) (b * d))]) ∧ ∃ n, w' = w.drewN n := by
  have hf := fraction_any (a * d + c * b) (b * d) w (by omega) h3 h4 h5
  have Hf := Lib.hid hf
  clear hf
  generalize hr1 : redN (a * d + c * b) (b * d) = r1 at *
  generalize hr2 : redD (a * d + c * b) (b * d) = r2 at *
  clear hr1 hr2
  go_enter Try.func71, Try.ntmps71
  go_wp2_with fail
  refine Hf.out.mono ?_
  rintro e w' ⟨rfl, n, rfl⟩
  go_wp2
  go_ret2
  exact ⟨rfl, n, rfl⟩


set_option maxHeartbeats 400000 in
theorem timeTo_any (A : Option Addr) (c : Nat) (l : List Earth) (d : Int) (w : World) (h : Rd encE 2 w w.heap.size A l) (ho : Oks l) (h5 : l.length ≤ 5) (hd : 0 ≤ d) (hd2 : d ≤ 9223372036854775807) :
    Calls Try.prog 52 #[.slice A l.length c, .int .i64 d] w fun e w' => e = .returned (.tuple #[.int .i64 (tTo l d).1, .int .i64 (tTo l d).2.1]) ∧ Below w.heap.size w w' := by
  go_enter Try.func52, Try.ntmps52
  go_wp2
  go_loopw [1, 6, 7, 13] (fun r n q i wr => ∃ k : Nat, k ≤ l.length ∧ i = .int .i64 k ∧ n = .int .i64 (tTo (l.take k) d).1 ∧ q = .int .i64 (tTo (l.take k) d).2.1 ∧ r = .int .i64 (tTo (l.take k) d).2.2 ∧ Below w.heap.size w wr)
    (fun _ _ _ i _ => l.length - (intOf i).toNat)
  case atStart => exact ⟨0, Nat.zero_le _, rfl, rfl, rfl, rfl, Below.refl _ _⟩
  case round =>
    obtain ⟨k, hk, rfl, rfl, rfl, rfl, hbl⟩ := hrel
    by_cases hlt : k < l.length
    · obtain ⟨b, off, rfl, hb, c0, c1⟩ := cellsE (h.below hbl) hlt
      have hi := tTo_inv ho d hd k hk
      have hok := ho.get hlt
      have hst := tStep_inv hi hok
      have hs := tTo_succ l d k hlt
      have hrem : (tTo (l.take k) d).2.2 ≤ 9223372036854775807 := by have h1 := tTo_rem ho d hd k hk; have h2 := depthL_bd ho k hk; omega
      have hp : (50 : Int) ^ (k + 1) ≤ 312500000 := by
        have : k ≤ 4 := by omega
        match k, this with
        | 0, _ => decide
        | 1, _ => decide
        | 2, _ => decide
        | 3, _ => decide
        | 4, _ => decide
      have hp2 : 200 * ((k : Int) + 1) * 50 ^ (k + 1) ≤ 312500000000 := by
        have h0 := pow50_pos (k + 1)
        have : 200 * ((k : Int) + 1) * 50 ^ (k + 1) ≤ 1000 * 50 ^ (k + 1) := Int.mul_le_mul_of_nonneg_right (by omega) (by omega)
        omega
      obtain ⟨_, s1, s2, s3, s4⟩ := hst
      obtain ⟨i1, i2, i3, i4, i5, i6⟩ := hi
      generalize l[k] = x at *
      rw [tStep] at hs
      generalize tTo (l.take k) d = s at *
      obtain ⟨n, q, r⟩ := s
      simp only at *
      have hq1 : 0 ≤ n * x.speed := Int.mul_nonneg i1 (by omega)
      have hq2 : 0 ≤ min r x.thick * q := Int.mul_nonneg (by omega) (by omega)
      have hplus := fun W => plus_any n q (min r x.thick) x.speed W hq1 hq2 s3 (by omega) (by omega)
      have Hs := Lib.hid hs
      have Hplus := Lib.hid hplus
      clear hs i6 i2 i4 s1 s2 s3 s4 hp hp2 hq1 hq2 hplus
      by_cases hm : r ≤ x.thick
      · have hmin : min r x.thick = r := by omega
        rw [hmin] at Hs Hplus
        clear hmin
        go_wp2_with fail
        refine (Hplus.out _).mono ?_
        rintro e w1 ⟨rfl, hdr⟩
        have hb1 := below_of_drew hdr (B := wr.heap.size)
        have Hdr := Lib.hid hdr
        clear hdr
        go_wp2
        go_roundw
        case rel =>
          refine ⟨k + 1, by omega, by go_num, by rw [Hs.out], by rw [Hs.out], by rw [Hs.out]; simp, ?_⟩
          exact (hbl.alloc hbl.size _).trans ((below_of_drew Hdr.out))
        case measure => simp [intOf]; omega
      · have hmin : min r x.thick = x.thick := by omega
        rw [hmin] at Hs Hplus
        clear hmin
        go_wp2_with fail
        refine (Hplus.out _).mono ?_
        rintro e w1 ⟨rfl, hdr⟩
        have hb1 := below_of_drew hdr (B := wr.heap.size)
        have Hdr := Lib.hid hdr
        clear hdr
        go_wp2
        go_roundw
        case rel =>
          refine ⟨k + 1, by omega, by go_num, by rw [Hs.out], by rw [Hs.out], by rw [Hs.out], ?_⟩
          exact (hbl.alloc hbl.size _).trans ((below_of_drew Hdr.out))
        case measure => simp [intOf]; omega
    · have hkl : (l.take k) = l := List.take_of_length_le (by omega)
      rw [hkl]
      clear hkl
      go_wp2
      go_ret2
      exact ⟨rfl, hbl⟩


set_option maxHeartbeats 400000 in
theorem l8To_any (A : Option Addr) (c : Nat) (l : List Earth) (d : Int) (w : World) (B : Nat) (h : Rd encE 2 w B A l) (ho : Oks l) (h5 : l.length ≤ 5) (hd : 0 ≤ d) (hd2 : d ≤ 9223372036854775807) :
    Calls Try.prog 51 #[.slice A l.length c, .int .i64 d] w fun e w' => e = .returned (.tuple #[.int .i64 (tTo l d).1, .int .i64 (tTo l d).2.1]) ∧ ∃ n, w' = w.drewN n := by
  go_enter Try.func51, Try.ntmps51
  go_wp2
  go_loopw [6, 7, 8, 9] (fun n q t i wr => ∃ k : Nat, k ≤ l.length ∧ i = .int .i64 k ∧ n = .int .i64 (tTo (l.take k) d).1 ∧ q = .int .i64 (tTo (l.take k) d).2.1 ∧ t = .int .i64 (depthL (l.take k)) ∧ Hid (∃ m, wr = w.drewN m))
    (fun _ _ _ i _ => l.length - (intOf i).toNat)
  case atStart => exact ⟨0, Nat.zero_le _, rfl, rfl, rfl, rfl, ⟨0, rfl⟩⟩
  case round =>
    obtain ⟨k, hk, rfl, rfl, rfl, rfl, hbl⟩ := hrel
    by_cases hlt : k < l.length
    · have hwr : Rd encE 2 wr B A l := by obtain ⟨m, rfl⟩ := hbl.out; exact h.drewN m
      obtain ⟨b, off, rfl, hb, c0, c1⟩ := cellsE hwr hlt
      have hi := tTo_inv ho d hd k hk
      have hok := ho.get hlt
      have hst := tStep_inv hi hok
      have hs := tTo_succ l d k hlt
      have hss := sStep_eq ho d hd k hlt
      have hsd := depthL_succ l k hlt
      have hdb := depthL_bd ho k hk
      have hp : (50 : Int) ^ (k + 1) ≤ 312500000 := by
        have : k ≤ 4 := by omega
        match k, this with
        | 0, _ => decide
        | 1, _ => decide
        | 2, _ => decide
        | 3, _ => decide
        | 4, _ => decide
      have hp2 : 200 * ((k : Int) + 1) * 50 ^ (k + 1) ≤ 312500000000 := by
        have h0 := pow50_pos (k + 1)
        have : 200 * ((k : Int) + 1) * 50 ^ (k + 1) ≤ 1000 * 50 ^ (k + 1) := Int.mul_le_mul_of_nonneg_right (by omega) (by omega)
        omega
      have hrem := tTo_rem ho d hd k hk
      obtain ⟨_, s1, s2, s3, s4⟩ := hst
      obtain ⟨i1, i2, i3, i4, i5, i6⟩ := hi
      generalize l[k] = x at *
      have e1 : max 0 (min x.thick (d - depthL (l.take k))) = min (tTo (l.take k) d).2.2 x.thick := by rw [hrem]; omega
      rw [tStep] at hs
      generalize tTo (l.take k) d = s at *
      generalize depthL (l.take k) = t at *
      obtain ⟨n, q, r⟩ := s
      simp only at *
      have hq1 : 0 ≤ n * x.speed := Int.mul_nonneg i1 (by omega)
      have hq2 : 0 ≤ min r x.thick * q := Int.mul_nonneg (by omega) (by omega)
      generalize hpp : min r x.thick = pt at *
      have w1 : wrap64 (n * x.speed) = n * x.speed := IntWalk.wrap64_in _ ⟨by omega, by omega⟩
      have w2 : wrap64 (pt * q) = pt * q := IntWalk.wrap64_in _ ⟨by omega, by omega⟩
      have w3 : wrap64 (n * x.speed + pt * q) = n * x.speed + pt * q := IntWalk.wrap64_in _ ⟨by omega, by omega⟩
      have w4 : wrap64 (q * x.speed) = q * x.speed := IntWalk.wrap64_in _ ⟨by omega, by omega⟩
      have W1 := Lib.hid w1
      have W2 := Lib.hid w2
      have W3 := Lib.hid w3
      have W4 := Lib.hid w4
      clear w1 w2 w3 w4
      have hred := fun W => l2Reduce_any (n * x.speed + pt * q) (q * x.speed) W (by omega) s3 (by omega) (by omega)
      have Hs := Lib.hid hs
      have Hsd := Lib.hid hsd
      have Hred := Lib.hid hred
      have E1 := Lib.hid e1
      clear hs i6 i2 i4 s1 s2 hp hp2 hred hss hsd hrem e1
      go_wp2_with (first | (go_at_call 70; refine (l1Least_any _ _ _).mono ?_; rintro e w' ⟨rfl, rfl⟩) | (go_at_call 69; refine (l1Most_any _ _ _).mono ?_; rintro e w' ⟨rfl, rfl⟩; rw [E1.out]))
      go_quiet ((go_at_call 53; rw [W1.out, W2.out, W3.out, W4.out]; with_reducible exact Calls.quiet_of (Hred.out _)))
      go_wp2
      go_roundw
      case rel =>
        refine ⟨k + 1, by omega, by go_num, by rw [Hs.out], by rw [Hs.out], by rw [Hsd.out], ?_⟩
        obtain ⟨m, rfl⟩ := hbl.out
        exact ⟨_, World.drewN_drewN _ _ _⟩
      case measure => simp [intOf]; omega
    · have hkl : (l.take k) = l := List.take_of_length_le (by omega)
      rw [hkl]
      clear hkl
      go_wp2
      go_ret2
      exact ⟨rfl, hbl.out⟩


end Go.Proofs.Ytadaaooldlaahaa
