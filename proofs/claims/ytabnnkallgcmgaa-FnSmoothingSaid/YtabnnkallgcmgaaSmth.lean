/-
  Contracts of Smoothed, both. (Printed by gen_F2.py.)
-/
import Derived.Test.YtabnnkallgcmgaaSmd
namespace Go.Proofs.Ytabnnkallgcmgaa
set_option linter.unusedVariables false
open Go.RowKit

set_option maxRecDepth 100000 in
set_option maxHeartbeats 400000 in
theorem Smoothed_any (A : Option Addr) (c : Nat) (l : List Int) (k : Int) (w : World) (h : Rd encI 1 w w.heap.size A l) (hl : l.length ≤ 1048576) (hc : l.length ≤ c ∧ c ≤ maxLen) :
    Calls Try.prog 18 #[.slice A l.length c, .int .i64 k] w fun e w' => ∃ A' c', e = .returned (.tuple #[.slice A' (smL l k).length c', .bool (okSm l k)]) ∧ ((smL l k).length ≤ c' ∧ c' ≤ maxLen) ∧ Own encI 1 w' w.heap.size 3 (.slice A' (smL l k).length c') (smL l k) ∧ Below w.heap.size w w' := by
  have hb0 : Below w.heap.size w ((w.alloc (.cells #[.slice A l.length c] 22)).alloc (.cells #[.int .i64 k] 3)) := by (repeat (first | with_reducible exact Below.refl _ _ | with_reducible assumption | with_reducible refine Below.setCell ?_ (by simp <;> omega) _ | with_reducible refine Below.alloc ?_ (by first | omega | (simp <;> omega)) _ | with_reducible refine Below.drew ?_ | with_reducible refine below_drewN ?_ _))
  have HQ0 : Hid (Blk ((w.alloc (.cells #[.slice A l.length c] 22)).alloc (.cells #[.int .i64 k] 3)) w.heap.size 22 #[.slice A l.length c]) := (Blk.new w _ _).alloc _
  have HQ1 : Hid (Blk ((w.alloc (.cells #[.slice A l.length c] 22)).alloc (.cells #[.int .i64 k] 3)) (w.heap.size + 1) 3 #[.int .i64 k]) := by
    have hq := Blk.new (w.alloc (.cells #[.slice A l.length c] 22)) 3 #[.int .i64 k]
    simp at hq; exact hq
  have hr0 := (h.below hb0).more hb0.size
  have hmf : ∀ (fn : Fn) (first cap : Array Value) (w : World), (Instr.makeFunc fn first cap).run Try.prog w = .ok (.func fn first cap) w := fun _ _ _ _ => rfl
  cases hg : goodS l with
  | false =>
    have hk : okSm l k = false := by simp [okSm, hg]
    unfold smL
    simp only [hk, Bool.false_eq_true, if_false, List.length_nil]
    clear hk
    go_enter Try.func18, Try.ntmps18
    go_wp2_with (go_at_call 46; refine (areSamples_any A c l _ hr0 hl).mono ?_; rintro e w1 ⟨rfl, hb1⟩; rw [hg])
    go_ret2
    exact ⟨none, 0, rfl, ⟨Nat.le_refl _, Nat.zero_le _⟩, Own.none_ _ _ _, hb0.trans (hb1.mono hb0.size)⟩
  | true =>
    cases hi : inB k 1 100 with
    | false =>
      have hk : okSm l k = false := by simp [okSm, hi]
      unfold smL
      simp only [hk, Bool.false_eq_true, if_false, List.length_nil]
      clear hk
      go_enter Try.func18, Try.ntmps18
      go_wp2_with fail
      refine (areSamples_any A c l _ hr0 hl).mono ?_
      rintro e w1 ⟨rfl, hb1⟩
      have z0 := (HQ0.out.after hb1).cell 0
      have z1 := (HQ1.out.after hb1).cell 0
      simp only [List.getElem?_toArray, List.getElem?_cons_zero] at z0 z1
      rw [hg]
      go_wp2_with (go_at_call 47; refine (in_any _ _ _ _).mono ?_; rintro e w' ⟨rfl, rfl⟩; rw [hi])
      go_ret2
      exact ⟨none, 0, rfl, ⟨Nat.le_refl _, Nat.zero_le _⟩, Own.none_ _ _ _, hb0.trans (hb1.mono hb0.size)⟩
    | true =>
      have hk : okSm l k = true := by simp [okSm, hi, hg]
      obtain ⟨⟨hl24, hsm⟩, hk1, hk2⟩ := okSm_iff.1 hk
      obtain ⟨M, hM⟩ : ∃ M, smL l k = M := ⟨_, rfl⟩
      have hMv : M = (List.range l.length).map (smo l k) := by rw [← hM]; unfold smL; rw [if_pos hk]
      have hMl : M.length = l.length := by rw [hMv]; simp
      rw [hM, hk, hMl]
      have HM := Lib.hid hMv
      clear hk hM hMv hMl
      go_enter Try.func18, Try.ntmps18
      go_wp2_with fail
      refine (areSamples_any A c l _ hr0 hl).mono ?_
      rintro e w1 ⟨rfl, hb1⟩
      have hB1 := hb0.trans (hb1.mono hb0.size)
      have HQ0' := Lib.hid (HQ0.out.after hb1)
      have HQ1' := Lib.hid (HQ1.out.after hb1)
      have z0 := HQ0'.out.cell 0
      have z1 := HQ1'.out.cell 0
      simp only [List.getElem?_toArray, List.getElem?_cons_zero] at z0 z1
      have hr1 := hr0.after hb1
      have hsz1 : w.heap.size + 1 < w1.heap.size := by have := HQ1'.out.lt; omega
      have hsz0 : w.heap.size < w1.heap.size := by omega
      rw [hg]
      have hbA : Below w1.heap.size w1 (w1.alloc (.cells #[.int .i64 0] 3)) := by (repeat (first | with_reducible exact Below.refl _ _ | with_reducible assumption | with_reducible refine Below.setCell ?_ (by simp <;> omega) _ | with_reducible refine Below.alloc ?_ (by first | omega | (simp <;> omega)) _ | with_reducible refine Below.drew ?_ | with_reducible refine below_drewN ?_ _))
      have HE := Lib.hid (each_any 56 #[.pointer (some ⟨w.heap.size, 0, none⟩), .pointer (some ⟨w1.heap.size, 0, none⟩), .pointer (some ⟨w.heap.size + 1, 0, none⟩)] (enters_of Try.func56 (by kernel_rfl) rfl) A l.length c (smo l k)
        (SmSt w.heap.size (w.heap.size + 1) w1.heap.size A c l k w1.heap.size) (some w1.heap.size) (w1.alloc (.cells #[.int .i64 0] 3)) hl (by intro q hq; injection hq with hq; subst hq; simp)
        ⟨HQ0'.out.after hbA, HQ1'.out.after hbA, Blk.new _ _ _, hr1.below hbA, Nat.le_refl _, hsz0, hsz1⟩
        (fun i W W' hW hb => by
          obtain ⟨a1, a2, a3, a4, a5, a6, a7⟩ := hW
          have hs : (w1.alloc (.cells #[.int .i64 0] 3)).heap.size = w1.heap.size + 1 := by simp
          rw [hs] at hb
          exact ⟨a1.below hb (by omega), a2.below hb (by omega), a3.below hb (by omega), a4.below (hb.mono (by omega)), a5, a6, a7⟩)
        (fun i W hi _ hW => Smoothed1_any A c l k i w.heap.size (w.heap.size + 1) w1.heap.size w1.heap.size W hW hsm hl24 hk1 hk2 hi))
      clear hb0
      go_wp2_with (go_at_call 47; refine (in_any _ _ _ _).mono ?_; rintro e w' ⟨rfl, rfl⟩; rw [hi])
      refine HE.out.mono ?_
      rintro e w2 ⟨v, rfl, hown, _, hg2⟩
      rw [← HM.out] at hown
      obtain ⟨A', c', rfl, hcc, hrd⟩ := Own.form encI_len hown
      have hMl : M.length = l.length := by rw [HM.out]; simp
      rw [hMl] at hown hcc ⊢
      have hbe : Below w1.heap.size (w1.alloc (.cells #[.int .i64 0] 3)) w2 := only_below hg2 (Nat.le_refl _) (by simp)
      have Hown := Lib.hid (hown.mono (show w.heap.size ≤ (w1.alloc (.cells #[.int .i64 0] 3)).heap.size by simp; omega))
      have hB2 := hB1.trans ((hbA.trans hbe).mono hB1.size)
      clear hown hrd z0 z1 hMl hg2 hbe
      go_wp2
      go_ret2
      exact ⟨_, _, rfl, hcc, Hown.out, hB2⟩

set_option maxRecDepth 100000 in
set_option maxHeartbeats 1000000 in
theorem sSmoothed_any (A : Option Addr) (c : Nat) (l : List Int) (k : Int) (w : World) (h : Rd encI 1 w w.heap.size A l) (hl : l.length ≤ 1048576) (hc : l.length ≤ c ∧ c ≤ maxLen) :
    Calls Try.prog 17 #[.slice A l.length c, .int .i64 k] w fun e w' => ∃ A' c', e = .returned (.tuple #[.slice A' (smL l k).length c', .bool (okSm l k)]) ∧ ((smL l k).length ≤ c' ∧ c' ≤ maxLen) ∧ Own encI 1 w' w.heap.size 3 (.slice A' (smL l k).length c') (smL l k) ∧ Below w.heap.size w w' := by
  have hb0 : Below w.heap.size w (w.alloc (.cells #[] 3)) := by (repeat (first | with_reducible exact Below.refl _ _ | with_reducible assumption | with_reducible refine Below.setCell ?_ (by simp <;> omega) _ | with_reducible refine Below.alloc ?_ (by first | omega | (simp <;> omega)) _ | with_reducible refine Below.drew ?_ | with_reducible refine below_drewN ?_ _))
  have hr0 := (h.below hb0).more hb0.size
  have Ho := Lib.hid (Own.empty (enc := encI) (k := 1) w w.heap.size 3 (Nat.le_refl _))
  have hask := fun W B hW => l6Asked_any A c l k 1 100 W B hW hl
  rw [show (goodS l && inB k 1 100) = okSm l k from rfl] at hask
  cases hk : okSm l k with
  | false =>
    have hm : smL l k = [] := by unfold smL; rw [hk]; rfl
    rw [hm]
    rw [hk] at hask
    have Hask := Lib.hid hask
    clear hask hm hk
    go_enter Try.func17, Try.ntmps17
    go_wp2_with (go_at_call 44; refine (Hask.out _ _ hr0).mono ?_; rintro e w1 ⟨rfl, rfl⟩)
    go_ret2
    exact ⟨_, 0, rfl, ⟨Nat.le_refl _, Nat.zero_le _⟩, Ho.out, hb0⟩
  | true =>
    obtain ⟨⟨hl24, hsm⟩, hk1, hk2⟩ := okSm_iff.1 hk
    obtain ⟨i0, hi, hz0, hz1, hz2⟩ := info_parts infoI
    obtain ⟨M, hM⟩ : ∃ M, smL l k = M := ⟨_, rfl⟩
    have hMv : M = (List.range l.length).map (smo l k) := by rw [← hM]; unfold smL; rw [if_pos hk]
    have hMl : M.length = l.length := by rw [hMv]; simp
    rw [hM, hMl]
    have HM := Lib.hid hMv
    rw [hk] at hask
    have Hask := Lib.hid hask
    have hbd := smo_bd hsm hk1
    have Hbd := Lib.hid hbd
    clear hask hM hMv hMl hk hbd
    go_enter Try.func17, Try.ntmps17
    go_wp2_with (go_at_call 44; refine (Hask.out _ _ hr0).mono ?_; rintro e w1 ⟨rfl, rfl⟩)
    go_loopw [6, 7] (fun v i wr => ∃ j : Nat, j ≤ l.length ∧ i = .int .i64 j ∧ Hid (Own encI 1 wr w.heap.size 3 v ((List.range j).map (smo l k))) ∧ Below w.heap.size w wr) (fun _ i _ => l.length - (intOf i).toNat)
    case atStart => exact ⟨0, Nat.zero_le _, rfl, Ho.out, hb0⟩
    case round =>
      obtain ⟨j, hjl, rfl, hown, hbl⟩ := hrel
      by_cases hlt : j < l.length
      · have hnx : (List.range (j + 1)).map (smo l k) = (List.range j).map (smo l k) ++ [smo l k j] := by rw [List.range_succ, List.map_append]; rfl
        have hfl : ((List.range j).map (smo l k)).length = j := by rw [List.length_map, List.length_range]
        have hgt : ∀ i (hi : i < ((List.range j).map (smo l k)).length), ((List.range j).map (smo l k))[i] = smo l k i := by intro i hi; simp
        obtain ⟨M2, hM2⟩ : ∃ M2, (List.range j).map (smo l k) = M2 := ⟨_, rfl⟩
        rw [hM2] at hnx hown hfl
        simp only [hM2] at hgt
        have Hnx := Lib.hid hnx
        obtain ⟨B', d', rfl, hcd, hrd⟩ := Own.form encI_len hown.out
        have hsz := hbl.size
        obtain ⟨b, off, hA, hb, d0⟩ := cellsI (h.below hbl) (show 0 < l.length by omega)
        subst hA
        obtain ⟨b', off', e', hb', dj⟩ := cellsI (h.below hbl) hlt
        injection e' with e'
        injection e' with e1 e2
        subst e1 e2
        have hb1 := Hbd.out j hlt
        cases j with
        | zero =>
          have hv : smo l k 0 = l[0] := by unfold smo; rw [List.getD_eq_getElem?_getD, List.getElem?_eq_getElem hlt]; rfl
          rw [hv] at Hnx
          generalize l[0] = x at *
          have Hfl := Lib.hid hfl
          simp only [Nat.add_zero] at d0
          clear hM2 hnx hv hrd hgt hfl dj
          go_wp2_with (at_builtin; refine wpList_app1 rfl _ _ 22 rfl w.heap.size 3 i0 _ 1 8 Try.underlying22 hi hz0 hz1 hz2 rfl (by omega) (by omega) encI encI_len encI_one (.slice B' M2.length d') M2 x wr _ rfl _ rfl hown.out rfl (by have := Hfl.out; omega) (by omega) ?_; intro v' w2 hown2 hb2 _)
          have Hown2 := Lib.hid hown2
          have hbl2 := hbl.trans hb2
          clear hown2 hb2
          go_wp2
          go_roundw
          case rel => exact ⟨0 + 1, by omega, by go_num, by rw [Hnx.out]; exact Hown2.out, hbl2⟩
          case measure => simp [intOf]; omega
        | succ j =>
          have hj : j < M2.length := by omega
          obtain ⟨b2, off2, hB', hbb, dm⟩ := cellsI hrd hj
          have hg := hgt j (by omega)
          rw [hg] at dm
          have hv : smo l k (j + 1) = smo l k j + (l[j + 1] - smo l k j) / k := by
            show _ + (l.getD (j + 1) 0 - _) / k = _
            rw [List.getD_eq_getElem?_getD, List.getElem?_eq_getElem hlt]; rfl
          have hb2 := Hbd.out j (by omega)
          have hx := hsm _ (List.getElem_mem hlt)
          rw [hv] at Hnx hb1
          have hi0 : ((j + 1 : Nat) : Int) = (j : Int) + 1 := by omega
          have hi1 : (0 : Int) < (j : Int) + 1 := by omega
          have hi2 : (j : Int) + 1 < (l.length : Int) := by omega
          have hi3 : 0 ≤ (j : Int) + 1 := by omega
          have hi4 : (j : Int) < (M2.length : Int) := by omega
          have hi5 : (j : Int) + 1 - 1 = (j : Int) := by omega
          have hwj : IntKind.i64.wrap ((j : Int) + 1 - 1) = (j : Int) := by rw [hi5]; exact IntWalk.i64_in _ (by omega)
          generalize smo l k j = y at *
          generalize l[0] = z0 at *
          generalize l[j + 1] = x at *
          have hfd := fun V => l6Floor_any (x - y) k V hk1 (by omega) (by omega) (by omega)
          generalize (x - y) / k = z at *
          have Hfd := Lib.hid hfd
          have s1 : IntKind.i64.wrap (x - y) = x - y := IntWalk.i64_in _ (by omega)
          have s2 : IntKind.i64.wrap (y + z) = y + z := IntWalk.i64_in _ (by omega)
          subst hB'
          have hml : M2.length ≤ 1048576 := by omega
          obtain ⟨g1, g2⟩ := hb1
          obtain ⟨g3, g4⟩ := hb2
          obtain ⟨g5, g6⟩ := hx
          simp only [Nat.add_zero] at d0
          rw [hi0]
          have Hi0 := Lib.hid hi0
          clear hM2 hnx hv hrd hgt hfl hg hfd hi0 hi5
          go_wp2_with fail
          go_quiet ((go_at_call 55; exact quiet_left (Hfd.out _)))
          generalize hwz : wr.drewN _ = wz at *
          have Hown1 : Hid (Own encI 1 wz w.heap.size 3 (.slice (some ⟨b2, off2, none⟩) M2.length d') M2) := hwz ▸ hown.out.keep (below_drewN (Below.refl _ _) _)
          have hblz : Below w.heap.size w wz := hwz ▸ below_drewN hbl _
          have hszz := hblz.size
          clear hwz hown d0 dj dm
          go_wp2_with (at_builtin; refine wpList_app1 rfl _ _ 22 rfl w.heap.size 3 i0 _ 1 8 Try.underlying22 hi hz0 hz1 hz2 rfl (by omega) (by omega) encI encI_len encI_one (.slice (some ⟨b2, off2, none⟩) M2.length d') M2 (y + z) wz _ rfl _ rfl Hown1.out rfl hml (by omega) ?_; intro v' w2 hown2 hb2 _)
          have Hown2 := Lib.hid hown2
          have hbl2 := hblz.trans hb2
          clear hown2 hb2
          go_wp2
          go_roundw
          case rel => exact ⟨j + 1 + 1, by omega, by go_num, by rw [Hnx.out]; exact Hown2.out, hbl2⟩
          case measure => simp [intOf]; omega
      · have hke : j = l.length := by omega
        have hown' : Own encI 1 wr w.heap.size 3 u6 M := by rw [HM.out, ← hke]; exact hown.out
        obtain ⟨B', d', e6, hcd, _⟩ := Own.form encI_len hown'
        have hMl : M.length = l.length := by rw [HM.out]; simp
        rw [hMl] at e6 hcd
        subst e6
        have Hown := Lib.hid hown'
        clear hown hown' hke hMl
        go_wp2
        go_ret2
        exact ⟨_, _, rfl, hcd, Hown.out, hbl⟩

end Go.Proofs.Ytabnnkallgcmgaa
