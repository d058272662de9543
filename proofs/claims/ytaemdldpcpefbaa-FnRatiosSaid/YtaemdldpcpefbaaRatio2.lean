/-
  Contracts of the ratio at a place.
-/
import Derived.Test.YtaemdldpcpefbaaRatio
namespace Go.Proofs.Ytaemdldpcpefbaa
set_option linter.unusedVariables false
open Go.RowKit

set_option maxHeartbeats 400000 in
theorem ratio_any (A : Option Addr) (c : Nat) (l : List Int) (s : Setting) (p : Nat) (w : World) (h : Rd encI 1 w w.heap.size A l) (hs : Sm l) (hl : l.length ≤ 24) (hc : l.length ≤ c ∧ c ≤ maxLen) (hg : goodG s = true) (hp : s.long ≤ p + 1) (hpl : p < l.length) :
    Calls Try.prog 57 #[.agg #[.int .i64 s.short, .int .i64 s.long, .int .i64 s.on, .int .i64 s.off], .slice A l.length c, .int .i64 p] w fun e w' => e = .returned (.tuple #[.int .i64 (ratN l s p), .int .i64 (ratD l s p)]) ∧ Below w.heap.size w w' := by
  obtain ⟨g1, g2, g3, g4, _⟩ := goodG_iff.1 hg
  obtain ⟨sn, hsn⟩ := Int.eq_ofNat_of_zero_le (show 0 ≤ s.short by omega)
  obtain ⟨ln, hln⟩ := Int.eq_ofNat_of_zero_le (show 0 ≤ s.long by omega)
  obtain ⟨b, off, rfl, hb, c0⟩ := cellsI h hpl
  obtain ⟨r1, r2, r3, r4, r5, r6, r7, r8⟩ := raw_bd hs hg p hp hpl
  obtain ⟨hc1, hc2⟩ := hc
  unfold maxLen at hc2
  clear c0
  obtain ⟨sho, lon, on, of⟩ := s
  simp only at *
  subst hsn hln
  have hS : Rd encI 1 w w.heap.size (some ⟨b, off + (p - sn + 1), none⟩) (win l sn p) := by
    have := (h.drop (p - sn + 1)).take sn
    rw [Nat.mul_one] at this
    rw [show win l sn p = (l.drop (p - sn + 1)).take sn by unfold win; congr 2; omega]
    exact this
  have hSl : (win l sn p).length = p - (p - sn) := by rw [win_len l sn p (by omega) hpl]; omega
  have hSs : Sm (win l sn p) := (hs.drop _).take _
  have hLs : Sm (win l ln p) := (hs.drop _).take _
  have hlen : (win l sn p).length ≤ 24 := by omega
  have hlen2 : (win l ln p).length ≤ 24 := by rw [win_len l ln p (by omega) hpl]; omega
  have hsz1 := fun A n c W B h1 h2 => size_any A n c (win l sn p) W B h1 h2 hSs hlen
  obtain ⟨sh, hsh⟩ : ∃ q, shS l ⟨(sn : Int), (ln : Int), on, of⟩ p = q := ⟨_, rfl⟩
  obtain ⟨lg, hlg⟩ : ∃ q, lgS l ⟨(sn : Int), (ln : Int), on, of⟩ p = q := ⟨_, rfl⟩
  have hsum1 : sumA (win l sn p) = sh := hsh
  have hsum2 : sumA (win l ln p) = lg := hlg
  rw [hsum1] at hsz1
  have hN : ratN l ⟨(sn : Int), (ln : Int), on, of⟩ p = if lg = 0 then 0 else redN (sh * ln) (lg * sn) := by
    unfold ratN rawN rawD; rw [hlg, hsh]; split
    · simp [redN]
    · rfl
  have hD : ratD l ⟨(sn : Int), (ln : Int), on, of⟩ p = if lg = 0 then 1 else redD (sh * ln) (lg * sn) := by
    unfold ratD rawN rawD; rw [hlg, hsh]; split
    · simp [redD]
    · rfl
  rw [hN, hD]
  rw [hlg] at r5 r6
  rw [hsh] at r7 r8
  have hb1 : sh * ln ≤ 10000000 := by have : sh * ln ≤ sh * 20 := Int.mul_le_mul_of_nonneg_left g4 r7; omega
  have hb2 : 0 ≤ sh * ln := Int.mul_nonneg r7 (by omega)
  have hb3 : lg * sn ≤ 10000000 := by have : lg * sn ≤ lg * 5 := Int.mul_le_mul_of_nonneg_left g2 r5; omega
  have hb4 : 0 ≤ lg * sn := Int.mul_nonneg r5 (by omega)
  have hb5 : lg ≠ 0 → 0 < lg * sn := fun h0 => Int.mul_pos (by omega) (by omega)
  have HS := Lib.hid hS
  have Hz1 := Lib.hid hsz1
  have HSl := Lib.hid hSl
  clear hS hSl hsz1 hsum1 hN hD hlg hsh r1 r2 r3 r4
  by_cases hlp : ln ≤ p
  · have hL : Rd encI 1 w w.heap.size (some ⟨b, off + (p - ln + 1), none⟩) (win l ln p) := by
      have := (h.drop (p - ln + 1)).take ln
      rw [Nat.mul_one] at this
      rw [show win l ln p = (l.drop (p - ln + 1)).take ln by unfold win; congr 2; omega]
      exact this
    have hLl : (win l ln p).length = p - (p - ln) := by rw [win_len l ln p (by omega) hpl]; omega
    have hsz2 := fun A n c W B h1 h2 => size_any A n c (win l ln p) W B h1 h2 hLs hlen2
    rw [hsum2] at hsz2
    have HL := Lib.hid hL
    have Hz2 := Lib.hid hsz2
    have HLl := Lib.hid hLl
    clear hL hLl hsum2 hsz2
    by_cases hz : lg = 0
    · subst hz
      simp only [if_true]
      go_enter Try.func57, Try.ntmps57
      go_wp2_with fail
      go_quiet ((go_at_call 72; (first | exact quiet_left (Hz1.out _ _ _ _ w.heap.size HSl.out (HS.out.alloc (Nat.le_refl _) _)) | exact quiet_left (Hz2.out _ _ _ _ w.heap.size HLl.out (HL.out.alloc (Nat.le_refl _) _)))))
      go_wp2
      go_ret2
      exact ⟨rfl, below_drewN ((Below.refl _ _).alloc (Nat.le_refl _) _) _⟩
    · simp only [if_neg hz]
      have hbz : (lg == 0) = false := by simpa using hz
      go_enter Try.func57, Try.ntmps57
      go_wp2_with fail
      go_quiet ((go_at_call 72; (first | exact quiet_left (Hz1.out _ _ _ _ w.heap.size HSl.out (HS.out.alloc (Nat.le_refl _) _)) | exact quiet_left (Hz2.out _ _ _ _ w.heap.size HLl.out (HL.out.alloc (Nat.le_refl _) _)))))
      go_wp2_with fail
      refine (fraction_any (sh * ln) (lg * sn) _ hb2 (hb5 hz) (by omega) (by omega)).mono ?_
      rintro e w3 ⟨rfl, hdr⟩
      have hb6 := (below_drewN ((Below.refl w.heap.size w).alloc (Nat.le_refl _) _) _).trans (below_of_drew hdr)
      have Hb6 := Lib.hid hb6
      clear hb6 hdr
      go_wp2
      go_ret2
      exact ⟨rfl, Hb6.out⟩
  · obtain rfl : ln = p + 1 := by omega
    have hz2 : (win l (p + 1) p).length = p + 1 := win_len l (p + 1) p (by omega) hpl
    have hL : Rd encI 1 w w.heap.size (some ⟨b, off, none⟩) (win l (p + 1) p) := by
      have := h.take (p + 1)
      rw [show win l (p + 1) p = l.take (p + 1) by unfold win; rw [Nat.sub_self, List.drop_zero]]
      exact this
    have hsz2 := fun A n c W B h1 h2 => size_any A n c (win l (p + 1) p) W B h1 h2 hLs hlen2
    rw [hsum2] at hsz2
    have HL := Lib.hid hL
    have Hz2 := Lib.hid hsz2
    have HLl := Lib.hid hz2
    clear hL hz2 hsum2 hsz2
    have hcast : ((p + 1 : Nat) : Int) = (p : Int) + 1 := by omega
    rw [hcast] at hb1 hb2 ⊢
    clear hcast
    have e0 : (p : Int) - ((p : Int) + 1) + 1 = 0 := by omega
    by_cases hz : lg = 0
    · subst hz
      simp only [if_true]
      go_enter Try.func57, Try.ntmps57
      go_wp2_with fail
      go_quiet ((go_at_call 72; (first | exact quiet_left (Hz1.out _ _ _ _ w.heap.size HSl.out (HS.out.alloc (Nat.le_refl _) _)) | exact quiet_left (Hz2.out _ _ _ _ w.heap.size HLl.out (HL.out.alloc (Nat.le_refl _) _)))))
      go_wp2
      go_ret2
      exact ⟨rfl, below_drewN ((Below.refl _ _).alloc (Nat.le_refl _) _) _⟩
    · simp only [if_neg hz]
      have hbz : (lg == 0) = false := by simpa using hz
      go_enter Try.func57, Try.ntmps57
      go_wp2_with fail
      go_quiet ((go_at_call 72; (first | exact quiet_left (Hz1.out _ _ _ _ w.heap.size HSl.out (HS.out.alloc (Nat.le_refl _) _)) | exact quiet_left (Hz2.out _ _ _ _ w.heap.size HLl.out (HL.out.alloc (Nat.le_refl _) _)))))
      clear e0
      go_wp2_with fail
      refine (fraction_any (sh * ((p : Int) + 1)) (lg * sn) _ hb2 (hb5 hz) (by omega) (by omega)).mono ?_
      rintro e w3 ⟨rfl, hdr⟩
      have hb6 := (below_drewN ((Below.refl w.heap.size w).alloc (Nat.le_refl _) _) _).trans (below_of_drew hdr)
      have Hb6 := Lib.hid hb6
      clear hb6 hdr
      go_wp2
      go_ret2
      exact ⟨rfl, Hb6.out⟩

end Go.Proofs.Ytaemdldpcpefbaa
