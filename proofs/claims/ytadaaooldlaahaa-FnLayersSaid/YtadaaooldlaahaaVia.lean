/-
  Contracts of the times via a layer.
-/
import Derived.Test.YtadaaooldlaahaaTimes
namespace Go.Proofs.Ytadaaooldlaahaa
set_option linter.unusedVariables false
open Go.RowKit

theorem timeVia_any (A : Option Addr) (c : Nat) (l : List Earth) (k : Nat) (dist : Int) (w : World) (h : Rd encE 2 w w.heap.size A l) (ho : Oks l) (h5 : l.length ≤ 5) (hc : l.length ≤ c ∧ c ≤ maxLen) (hk : k < l.length) (hd : 0 ≤ dist) (hd2 : dist ≤ 2001) :
    Calls Try.prog 58 #[.slice A l.length c, .int .i64 k, .int .i64 dist] w fun e w' => e = .returned (.tuple #[.int .i64 (viaN l k dist), .int .i64 (viaD l k dist)]) ∧ Below w.heap.size w w' := by
  have hstop := tTo_stop ho k (by omega)
  have hbd := depthL_bd ho k (by omega)
  have hti := tTo_inv ho (depthL (l.take k)) (by omega) k (by omega)
  have hv := via_bd ho h5 k hk dist hd hd2
  obtain ⟨hc1, hc2⟩ := hc
  unfold maxLen at hc2
  obtain ⟨b, off, rfl, hb, c0, c1⟩ := cellsE h hk
  have hok := ho.get hk
  have e0 : (l[k]?.map Earth.speed |>.getD 1) = l[k].speed := by rw [List.getElem?_eq_getElem hk]; rfl
  have hN : viaN l k dist = redN (2 * (tTo l (depthL (l.take k))).1 * l[k].speed + dist * (tTo l (depthL (l.take k))).2.1) ((tTo l (depthL (l.take k))).2.1 * l[k].speed) := by
    rw [hstop]; unfold viaN viaA viaB; rw [e0]
  have hD : viaD l k dist = redD (2 * (tTo l (depthL (l.take k))).1 * l[k].speed + dist * (tTo l (depthL (l.take k))).2.1) ((tTo l (depthL (l.take k))).2.1 * l[k].speed) := by
    rw [hstop]; unfold viaD viaA viaB; rw [e0]
  rw [hN, hD]
  clear hN hD
  have hA : 0 ≤ 2 * (tTo l (depthL (l.take k))).1 * l[k].speed + dist * (tTo l (depthL (l.take k))).2.1 ∧ 2 * (tTo l (depthL (l.take k))).1 * l[k].speed + dist * (tTo l (depthL (l.take k))).2.1 ≤ 22506250000 ∧ 0 < (tTo l (depthL (l.take k))).2.1 * l[k].speed ∧ (tTo l (depthL (l.take k))).2.1 * l[k].speed ≤ 312500000 := by
    rw [hstop]
    obtain ⟨v1, v2, v3, v4, _⟩ := hv
    unfold viaA at v1 v2
    unfold viaB at v3 v4
    rw [e0] at v1 v2 v3 v4
    exact ⟨v1, v2, v3, v4⟩
  rw [← hstop] at hti
  have hdo := fun W hW => depthOf_any (some ⟨b, off, none⟩) k c (l.take k) W (by simp; omega) hW (ho.take k) (by simp; omega)
  have hto := fun W hW => timeTo_any (some ⟨b, off, none⟩) c l (depthL (l.take k)) W hW ho h5 (by omega) (by omega)
  clear hstop hv e0
  generalize l[k] = x at *
  have hr2 := h.take k
  generalize depthL (l.take k) = dp at *
  generalize tTo l dp = s at *
  obtain ⟨n, q, r⟩ := s
  obtain ⟨i1, i2, i3, i4, i5, i6⟩ := hti
  simp only at *
  have hq1 : 0 ≤ 2 * n * x.speed := Int.mul_nonneg (by omega) (by omega)
  have hq2 : 0 ≤ dist * q := Int.mul_nonneg hd (by omega)
  have hn2 : 2 * n ≤ 2 * n * x.speed := by have := Int.mul_le_mul_of_nonneg_left hok.2.2.1 (show 0 ≤ 2 * n by omega); omega
  have hplus := fun W => plus_any (2 * n) q dist x.speed W hq1 hq2 hA.2.2.1 (by omega) (by omega)
  have hn3 : n ≤ 22506250000 := by omega
  have Hdo := Lib.hid hdo
  have Hto := Lib.hid hto
  have Hplus := Lib.hid hplus
  clear hdo hto hplus i6 i2 i4 hA hn2 hq1 hq2
  have c0' := c0
  have c1' := c1
  clear c0 c1
  go_enter Try.func58, Try.ntmps58
  go_wp2_with fail
  refine (Hdo.out _ hr2).mono ?_
  rintro e w1 ⟨rfl, hb1⟩
  go_wp2_with fail
  refine (Hto.out _ (h.after hb1)).mono ?_
  rintro e w2 ⟨rfl, hb2⟩
  have hbb : Below w.heap.size w w2 := hb1.trans (hb2.mono hb1.size)
  have d1 : w2.cell? ⟨b, off + k * 2 + 1, none⟩ = some (.int .i64 x.speed) := (hbb.cell (p := ⟨b, off + k * 2 + 1, none⟩) hb).trans c1'
  clear c0' c1'
  go_wp2_with fail
  refine (Hplus.out _).mono ?_
  rintro e w3 ⟨rfl, hdr⟩
  have hb3 := hbb.trans (below_of_drew hdr)
  have Hb3 := Lib.hid hb3
  clear hdr hb3
  go_wp2
  go_ret2
  exact ⟨rfl, Hb3.out⟩


theorem l8Via_any (A : Option Addr) (c : Nat) (l : List Earth) (k : Nat) (dist : Int) (w : World) (h : Rd encE 2 w w.heap.size A l) (ho : Oks l) (h5 : l.length ≤ 5) (hc : l.length ≤ c ∧ c ≤ maxLen) (hk : k < l.length) (hd : 0 ≤ dist) (hd2 : dist ≤ 2001) :
    Calls Try.prog 56 #[.slice A l.length c, .int .i64 k, .int .i64 dist] w fun e w' => e = .returned (.tuple #[.int .i64 (viaN l k dist), .int .i64 (viaD l k dist)]) ∧ Below w.heap.size w w' := by
  have hstop := tTo_stop ho k (by omega)
  have hbd := depthL_bd ho k (by omega)
  have hti := tTo_inv ho (depthL (l.take k)) (by omega) k (by omega)
  have hv := via_bd ho h5 k hk dist hd hd2
  obtain ⟨hc1, hc2⟩ := hc
  unfold maxLen at hc2
  obtain ⟨b, off, rfl, hb, c0, c1⟩ := cellsE h hk
  have hok := ho.get hk
  have e0 : (l[k]?.map Earth.speed |>.getD 1) = l[k].speed := by rw [List.getElem?_eq_getElem hk]; rfl
  have hN : viaN l k dist = redN (2 * (tTo l (depthL (l.take k))).1 * l[k].speed + dist * (tTo l (depthL (l.take k))).2.1) ((tTo l (depthL (l.take k))).2.1 * l[k].speed) := by
    rw [hstop]; unfold viaN viaA viaB; rw [e0]
  have hD : viaD l k dist = redD (2 * (tTo l (depthL (l.take k))).1 * l[k].speed + dist * (tTo l (depthL (l.take k))).2.1) ((tTo l (depthL (l.take k))).2.1 * l[k].speed) := by
    rw [hstop]; unfold viaD viaA viaB; rw [e0]
  rw [hN, hD]
  clear hN hD
  have hA : 0 ≤ 2 * (tTo l (depthL (l.take k))).1 * l[k].speed + dist * (tTo l (depthL (l.take k))).2.1 ∧ 2 * (tTo l (depthL (l.take k))).1 * l[k].speed + dist * (tTo l (depthL (l.take k))).2.1 ≤ 22506250000 ∧ 0 < (tTo l (depthL (l.take k))).2.1 * l[k].speed ∧ (tTo l (depthL (l.take k))).2.1 * l[k].speed ≤ 312500000 := by
    rw [hstop]
    obtain ⟨v1, v2, v3, v4, _⟩ := hv
    unfold viaA at v1 v2
    unfold viaB at v3 v4
    rw [e0] at v1 v2 v3 v4
    exact ⟨v1, v2, v3, v4⟩
  rw [← hstop] at hti
  have hdo := fun W hW => l8Depth_any (some ⟨b, off, none⟩) k c (l.take k) W W.heap.size (by simp; omega) hW (ho.take k) (by simp; omega)
  have hto := fun W hW => l8To_any (some ⟨b, off, none⟩) c l (depthL (l.take k)) W W.heap.size hW ho h5 (by omega) (by omega)
  clear hstop hv e0
  generalize l[k] = x at *
  have hr2 := h.take k
  generalize depthL (l.take k) = dp at *
  generalize tTo l dp = s at *
  obtain ⟨n, q, r⟩ := s
  obtain ⟨i1, i2, i3, i4, i5, i6⟩ := hti
  simp only at *
  have hq1 : 0 ≤ 2 * n * x.speed := Int.mul_nonneg (by omega) (by omega)
  have hq2 : 0 ≤ dist * q := Int.mul_nonneg hd (by omega)
  have hn2 : 2 * n ≤ 2 * n * x.speed := by have := Int.mul_le_mul_of_nonneg_left hok.2.2.1 (show 0 ≤ 2 * n by omega); omega
  have hred := fun W => l2Reduce_any (2 * n * x.speed + dist * q) (q * x.speed) W hA.1 hA.2.2.1 (by omega) (by omega)
  have hn3 : n ≤ 22506250000 := by omega
  obtain ⟨hA1, hA2, hA3, hA4⟩ := hA
  have Hdo := Lib.hid hdo
  have Hto := Lib.hid hto
  have Hred := Lib.hid hred
  clear hdo hto hred i6 i2 i4 hn2
  have c0' := c0
  have c1' := c1
  clear c0 c1
  go_enter Try.func56, Try.ntmps56
  go_wp2_with fail
  refine (Hdo.out _ hr2).mono ?_
  rintro e w1 ⟨rfl, rfl⟩
  go_wp2_with fail
  refine (Hto.out _ h).mono ?_
  rintro e w2 ⟨rfl, hdr2⟩
  have hbb : Below w.heap.size w w2 := below_of_drew hdr2
  have d1 : w2.cell? ⟨b, off + k * 2 + 1, none⟩ = some (.int .i64 x.speed) := (hbb.cell (p := ⟨b, off + k * 2 + 1, none⟩) hb).trans c1'
  clear c0' c1' hdr2
  go_wp2_with fail
  refine (Hred.out _).mono ?_
  rintro e w3 ⟨rfl, hdr⟩
  have hb3 := hbb.trans (below_of_drew hdr)
  have Hb3 := Lib.hid hb3
  clear hdr hb3
  go_wp2
  go_ret2
  exact ⟨rfl, Hb3.out⟩

end Go.Proofs.Ytadaaooldlaahaa
