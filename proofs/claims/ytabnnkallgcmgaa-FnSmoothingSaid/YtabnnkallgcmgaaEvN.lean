/-
  Contracts of EveryNth. (Printed by gen_F4.py.)
-/
import Derived.Test.YtabnnkallgcmgaaEvM
import Derived.Test.YtabnnkallgcmgaaCopF
namespace Go.Proofs.Ytabnnkallgcmgaa
set_option linter.unusedVariables false
open Go.RowKit

def enN (l : List Int) (n : Int) : Nat := (l.length + n.toNat - 1) / n.toNat
def enF (l : List Int) (n : Int) (j : Nat) : Int := l.getD (j * n.toNat) 0
def enL (l : List Int) (n : Int) : List Int := if okA 1 10 l n then (List.range (enN l n)).map (enF l n) else []
theorem enL_len {l : List Int} {n : Int} : (enL l n).length ≤ 1048576 := by
  unfold enL
  split
  · rename_i h
    have h1 := (okA_iff.1 h).1.1
    have h2 := (okA_iff.1 h).2
    have : enN l n ≤ l.length + n.toNat - 1 := Nat.div_le_self _ _
    simp; omega
  · simp

set_option maxRecDepth 100000 in
set_option maxHeartbeats 1000000 in
theorem EveryNth_any (A : Option Addr) (c : Nat) (l : List Int) (n : Int) (w : World) (h : Rd encI 1 w w.heap.size A l) (hl : l.length ≤ 1048576) :
    Calls Try.prog 33 #[.slice A l.length c, .int .i64 n] w fun e w' => ∃ A' c', e = .returned (.tuple #[.slice A' (enL l n).length c', .bool (okA 1 10 l n)]) ∧ ((enL l n).length ≤ c' ∧ c' ≤ maxLen) ∧ Own encI 1 w' w.heap.size 3 (.slice A' (enL l n).length c') (enL l n) ∧ Below w.heap.size w w' := by
  have HG := Lib.hid (areSamples_any A c l w h hl)
  have HI := Lib.hid (fun W => in_any n 1 10 W)
  cases hk : okA 1 10 l n with
  | false =>
    have hm0 : enL l n = [] := by unfold enL; rw [hk]; rfl
    rw [hm0]
    go_enter Try.func33, Try.ntmps33
    cases hg : goodS l with
    | false =>
      go_wp2_with (go_at_call 46; refine HG.out.mono ?_; rintro e w1 ⟨rfl, hb1⟩; rw [hg])
      go_ret2
      exact ⟨none, 0, rfl, ⟨Nat.le_refl _, Nat.zero_le _⟩, Own.none_ _ _ _, hb1⟩
    | true =>
      have hki : inB n 1 10 = false := by simpa [okA, hg] using hk
      go_wp2_with (first | (go_at_call 46; refine HG.out.mono ?_; rintro e w1 ⟨rfl, hb1⟩; rw [hg]) | (go_at_call 47; refine (HI.out _).mono ?_; rintro e w' ⟨rfl, rfl⟩; rw [hki]))
      go_ret2
      exact ⟨none, 0, rfl, ⟨Nat.le_refl _, Nat.zero_le _⟩, Own.none_ _ _ _, hb1⟩
  | true =>
    obtain ⟨⟨hl24, hsm⟩, hn1, hn2⟩ := okA_iff.1 hk
    have hkb : goodS l = true ∧ inB n 1 10 = true := by simpa [okA] using hk
    obtain ⟨hkg, hki⟩ := hkb
    obtain ⟨i0, hi, hz0, hz1, hz2⟩ := info_parts infoI
    obtain ⟨m, rfl⟩ := Int.eq_ofNat_of_zero_le (show 0 ≤ n by omega)
    have hMv : enL l m = (List.range (enN l m)).map (enF l m) := by unfold enL; rw [if_pos hk]
    obtain ⟨M, hM⟩ : ∃ M, enL l m = M := ⟨_, rfl⟩
    rw [hM] at hMv ⊢
    have HM := Lib.hid hMv
    clear hM hMv
    have hN : ∀ k, k ≤ enN l m → k * m < l.length + m := by
      intro k hk
      have h1 : k * m ≤ enN l m * m := Nat.mul_le_mul_right _ hk
      have h2 : enN l m * m ≤ l.length + m - 1 := Nat.div_mul_le_self _ _
      omega
    have hN1 : ∀ k, k * m < l.length → k < enN l m := by
      intro k hk
      refine Nat.lt_of_not_le (fun hle => ?_)
      have h1 : enN l m * m ≤ k * m := Nat.mul_le_mul_right _ hle
      have h3 := Nat.div_add_mod (l.length + m - 1) m
      have h4 := Nat.mod_lt (l.length + m - 1) (show 0 < m by omega)
      have h5 : enN l m = (l.length + m - 1) / m := rfl
      rw [← h5, Nat.mul_comm] at h3
      omega
    have hN2 : ∀ k, k ≤ enN l m → ¬ k * m < l.length → k = enN l m := by
      intro k hk hlt
      rcases Nat.lt_or_ge k (enN l m) with hc | hc
      · have h1 : (k + 1) * m ≤ enN l m * m := Nat.mul_le_mul_right _ hc
        have h2 : enN l m * m ≤ l.length + m - 1 := Nat.div_mul_le_self _ _
        rw [Nat.add_mul] at h1
        omega
      · omega
    have HN := Lib.hid hN
    have HN1 := Lib.hid hN1
    have HN2 := Lib.hid hN2
    clear hN hN1 hN2
    go_enter Try.func33, Try.ntmps33
    go_wp2_with fail
    refine HG.out.mono ?_
    rintro e w1 ⟨rfl, hb1⟩
    rw [hkg]
    have hs1 := hb1.size
    have hb0' : Below w.heap.size w (w1.alloc (.cells #[] 3)) := by (repeat (first | with_reducible exact Below.refl _ _ | with_reducible assumption | with_reducible refine Below.setCell ?_ (by simp <;> omega) _ | with_reducible refine Below.alloc ?_ (by first | omega | (simp <;> omega)) _ | with_reducible refine Below.drew ?_ | with_reducible refine below_drewN ?_ _))
    have Ho := Lib.hid (Own.empty (enc := encI) (k := 1) w1 w.heap.size 3 hs1)
    go_wp2_with (go_at_call 47; refine (HI.out _).mono ?_; rintro e w' ⟨rfl, rfl⟩; rw [hki])
    go_loopw [6, 7] (fun v i wr => ∃ k : Nat, k ≤ enN l m ∧ i = .int .i64 ((k * m : Nat) : Int) ∧ Hid (Own encI 1 wr w.heap.size 3 v ((List.range k).map (enF l m))) ∧ Below w.heap.size w wr) (fun _ i _ => l.length - (intOf i).toNat)
    case atStart => exact ⟨0, Nat.zero_le _, by simp, Ho.out, hb0'⟩
    case round =>
      obtain ⟨k, hkl, rfl, hown, hbl⟩ := hrel
      obtain ⟨wo, rfl⟩ : ∃ wo : World, wo = wr := ⟨_, rfl⟩
      have hkm := HN.out k hkl
      have HX := Lib.hid (rfl : k * m = k * m)
      by_cases hlt : k * m < l.length
      · have hk1 := HN1.out k hlt
        have hnx : (List.range (k + 1)).map (enF l m) = (List.range k).map (enF l m) ++ [l[k * m]] := by rw [List.range_succ, List.map_append]; show _ ++ [enF l m k] = _; unfold enF; rw [show (m : Int).toNat = m from rfl, getD_at hlt]
        have hfl : ((List.range k).map (enF l m)).length ≤ 1048576 := by rw [List.length_map, List.length_range]; have : k ≤ k * m := Nat.le_mul_of_pos_right _ (by omega); omega
        have hstep : ((k * m : Nat) : Int) + m = (((k + 1) * m : Nat) : Int) := by rw [Nat.add_mul]; omega
        obtain ⟨M2, hM2⟩ : ∃ M2, (List.range k).map (enF l m) = M2 := ⟨_, rfl⟩
        rw [hM2] at hnx hown hfl
        have Hnx := Lib.hid hnx
        obtain ⟨B', d', rfl, hcd, _⟩ := Own.form encI_len hown.out
        have hsz := hbl.size
        have hrk := (h.below hbl).more hsz
        obtain ⟨b, off, rfl, hb, c0⟩ := cellsI hrk hlt
        have hx := hsm _ (List.getElem_mem hlt)
        have Hst := Lib.hid hstep
        generalize hkm0 : k * m = km at *
        generalize l[km] = x at *
        clear hM2 hnx hstep
        go_wp2_with (at_builtin; refine wpList_app1 rfl _ _ 22 rfl w.heap.size 3 i0 _ 1 8 Try.underlying22 hi hz0 hz1 hz2 rfl (by omega) (by omega) encI encI_len encI_one (.slice B' M2.length d') M2 x wo _ rfl _ rfl hown.out rfl hfl (by omega) ?_; intro v' w2 hown2 hb2 _)
        have Hown2 := Lib.hid hown2
        have hbl2 := hbl.trans hb2
        clear hown2 hb2
        go_wp2
        go_roundw
        case rel => exact ⟨k + 1, by omega, by rw [← Hst.out], by rw [Hnx.out]; exact Hown2.out, hbl2⟩
        case measure => simp [intOf]; omega
      · have hke := HN2.out k hkl hlt
        have hown' : Own encI 1 wo w.heap.size 3 u6 M := by rw [HM.out, ← hke]; exact hown.out
        obtain ⟨B', d', e6, hcd, _⟩ := Own.form encI_len hown'
        subst e6
        have Hown := Lib.hid hown'
        generalize k * m = km at *
        clear hown hown' hke
        go_wp2
        go_ret2
        exact ⟨_, _, rfl, hcd, Hown.out, hbl⟩

set_option maxRecDepth 100000 in
set_option maxHeartbeats 1000000 in
theorem sEveryNth_any (A : Option Addr) (c : Nat) (l : List Int) (n : Int) (w : World) (h : Rd encI 1 w w.heap.size A l) (hl : l.length ≤ 1048576) :
    Calls Try.prog 34 #[.slice A l.length c, .int .i64 n] w fun e w' => ∃ A' c', e = .returned (.tuple #[.slice A' (enL l n).length c', .bool (okA 1 10 l n)]) ∧ ((enL l n).length ≤ c' ∧ c' ≤ maxLen) ∧ Own encI 1 w' w.heap.size 3 (.slice A' (enL l n).length c') (enL l n) ∧ Below w.heap.size w w' := by
  have hb0 : Below w.heap.size w (w.alloc (.cells #[] 3)) := by (repeat (first | with_reducible exact Below.refl _ _ | with_reducible assumption | with_reducible refine Below.setCell ?_ (by simp <;> omega) _ | with_reducible refine Below.alloc ?_ (by first | omega | (simp <;> omega)) _ | with_reducible refine Below.drew ?_ | with_reducible refine below_drewN ?_ _))
  have hr0 := (h.below hb0).more hb0.size
  have Ho := Lib.hid (Own.empty (enc := encI) (k := 1) w w.heap.size 3 (Nat.le_refl _))
  have hask := fun W B hW => l6Asked_any A c l n 1 10 W B hW hl
  rw [show (goodS l && inB n 1 10) = okA 1 10 l n from rfl] at hask
  cases hk : okA 1 10 l n with
  | false =>
    have hm0 : enL l n = [] := by unfold enL; rw [hk]; rfl
    rw [hm0]
    rw [hk] at hask
    have Hask := Lib.hid hask
    clear hask hk
    go_enter Try.func34, Try.ntmps34
    go_wp2_with (go_at_call 44; refine (Hask.out _ _ hr0).mono ?_; rintro e w1 ⟨rfl, rfl⟩)
    go_ret2
    exact ⟨_, 0, rfl, ⟨Nat.le_refl _, Nat.zero_le _⟩, Ho.out, hb0⟩
  | true =>
    obtain ⟨⟨hl24, hsm⟩, hn1, hn2⟩ := okA_iff.1 hk
    have hkb : goodS l = true ∧ inB n 1 10 = true := by simpa [okA] using hk
    obtain ⟨hkg, hki⟩ := hkb
    obtain ⟨i0, hi, hz0, hz1, hz2⟩ := info_parts infoI
    obtain ⟨m, rfl⟩ := Int.eq_ofNat_of_zero_le (show 0 ≤ n by omega)
    have hMv : enL l m = (List.range (enN l m)).map (enF l m) := by unfold enL; rw [if_pos hk]
    obtain ⟨M, hM⟩ : ∃ M, enL l m = M := ⟨_, rfl⟩
    rw [hM] at hMv ⊢
    have HM := Lib.hid hMv
    clear hM hMv
    have hN : ∀ k, k ≤ enN l m → k * m < l.length + m := by
      intro k hk
      have h1 : k * m ≤ enN l m * m := Nat.mul_le_mul_right _ hk
      have h2 : enN l m * m ≤ l.length + m - 1 := Nat.div_mul_le_self _ _
      omega
    have hN1 : ∀ k, k * m < l.length → k < enN l m := by
      intro k hk
      refine Nat.lt_of_not_le (fun hle => ?_)
      have h1 : enN l m * m ≤ k * m := Nat.mul_le_mul_right _ hle
      have h3 := Nat.div_add_mod (l.length + m - 1) m
      have h4 := Nat.mod_lt (l.length + m - 1) (show 0 < m by omega)
      have h5 : enN l m = (l.length + m - 1) / m := rfl
      rw [← h5, Nat.mul_comm] at h3
      omega
    have hN2 : ∀ k, k ≤ enN l m → ¬ k * m < l.length → k = enN l m := by
      intro k hk hlt
      rcases Nat.lt_or_ge k (enN l m) with hc | hc
      · have h1 : (k + 1) * m ≤ enN l m * m := Nat.mul_le_mul_right _ hc
        have h2 : enN l m * m ≤ l.length + m - 1 := Nat.div_mul_le_self _ _
        rw [Nat.add_mul] at h1
        omega
      · omega
    have HN := Lib.hid hN
    have HN1 := Lib.hid hN1
    have HN2 := Lib.hid hN2
    clear hN hN1 hN2
    rw [hk] at hask
    have Hask := Lib.hid hask
    have hb0' := hb0
    clear hask
    go_enter Try.func34, Try.ntmps34
    go_wp2_with (go_at_call 44; refine (Hask.out _ _ hr0).mono ?_; rintro e w1 ⟨rfl, rfl⟩)
    go_loopw [6, 7] (fun v i wr => ∃ k : Nat, k ≤ enN l m ∧ i = .int .i64 ((k * m : Nat) : Int) ∧ Hid (Own encI 1 wr w.heap.size 3 v ((List.range k).map (enF l m))) ∧ Below w.heap.size w wr) (fun _ i _ => l.length - (intOf i).toNat)
    case atStart => exact ⟨0, Nat.zero_le _, by simp, Ho.out, hb0'⟩
    case round =>
      obtain ⟨k, hkl, rfl, hown, hbl⟩ := hrel
      obtain ⟨wo, rfl⟩ : ∃ wo : World, wo = wr := ⟨_, rfl⟩
      have hkm := HN.out k hkl
      have HX := Lib.hid (rfl : k * m = k * m)
      by_cases hlt : k * m < l.length
      · have hk1 := HN1.out k hlt
        have hnx : (List.range (k + 1)).map (enF l m) = (List.range k).map (enF l m) ++ [l[k * m]] := by rw [List.range_succ, List.map_append]; show _ ++ [enF l m k] = _; unfold enF; rw [show (m : Int).toNat = m from rfl, getD_at hlt]
        have hfl : ((List.range k).map (enF l m)).length ≤ 1048576 := by rw [List.length_map, List.length_range]; have : k ≤ k * m := Nat.le_mul_of_pos_right _ (by omega); omega
        have hstep : ((k * m : Nat) : Int) + m = (((k + 1) * m : Nat) : Int) := by rw [Nat.add_mul]; omega
        obtain ⟨M2, hM2⟩ : ∃ M2, (List.range k).map (enF l m) = M2 := ⟨_, rfl⟩
        rw [hM2] at hnx hown hfl
        have Hnx := Lib.hid hnx
        obtain ⟨B', d', rfl, hcd, _⟩ := Own.form encI_len hown.out
        have hsz := hbl.size
        have hrk := (h.below hbl).more hsz
        obtain ⟨b, off, rfl, hb, c0⟩ := cellsI hrk hlt
        have hx := hsm _ (List.getElem_mem hlt)
        have Hst := Lib.hid hstep
        generalize hkm0 : k * m = km at *
        generalize l[km] = x at *
        clear hM2 hnx hstep
        go_wp2_with (at_builtin; refine wpList_app1 rfl _ _ 22 rfl w.heap.size 3 i0 _ 1 8 Try.underlying22 hi hz0 hz1 hz2 rfl (by omega) (by omega) encI encI_len encI_one (.slice B' M2.length d') M2 x wo _ rfl _ rfl hown.out rfl hfl (by omega) ?_; intro v' w2 hown2 hb2 _)
        have Hown2 := Lib.hid hown2
        have hbl2 := hbl.trans hb2
        clear hown2 hb2
        go_wp2
        go_roundw
        case rel => exact ⟨k + 1, by omega, by rw [← Hst.out], by rw [Hnx.out]; exact Hown2.out, hbl2⟩
        case measure => simp [intOf]; omega
      · have hke := HN2.out k hkl hlt
        have hown' : Own encI 1 wo w.heap.size 3 u6 M := by rw [HM.out, ← hke]; exact hown.out
        obtain ⟨B', d', e6, hcd, _⟩ := Own.form encI_len hown'
        subst e6
        have Hown := Lib.hid hown'
        generalize k * m = km at *
        clear hown hown' hke
        go_wp2
        go_ret2
        exact ⟨_, _, rfl, hcd, Hown.out, hbl⟩

end Go.Proofs.Ytabnnkallgcmgaa
