/-
  Contracts of Weighted, whole. (Printed by gen_F2.py.)
-/
import Derived.Test.YtabnnkallgcmgaaWtdI
namespace Go.Proofs.Ytabnnkallgcmgaa
set_option linter.unusedVariables false
open Go.RowKit

set_option maxRecDepth 100000 in
set_option maxHeartbeats 400000 in
theorem Weighted_any (A A2 : Option Addr) (c c2 : Nat) (l ws : List Int) (w : World) (h : Rd encI 1 w w.heap.size A l) (h2 : Rd encI 1 w w.heap.size A2 ws) (hl : l.length ≤ 1048576) (hl2 : ws.length ≤ 1048576) :
    Calls Try.prog 16 #[.slice A l.length c, .slice A2 ws.length c2] w fun e w' => ∃ A' c', e = .returned (.tuple #[.slice A' (wdL l ws).length c', .bool (okWd l ws)]) ∧ ((wdL l ws).length ≤ c' ∧ c' ≤ maxLen) ∧ Own encI 1 w' w.heap.size 3 (.slice A' (wdL l ws).length c') (wdL l ws) ∧ Below w.heap.size w w' := by
  have hb0 : Below w.heap.size w ((w.alloc (.cells #[.slice A l.length c] 22)).alloc (.cells #[.slice A2 ws.length c2] 22)) := by (repeat (first | with_reducible exact Below.refl _ _ | with_reducible assumption | with_reducible refine Below.setCell ?_ (by simp <;> omega) _ | with_reducible refine Below.alloc ?_ (by first | omega | (simp <;> omega)) _ | with_reducible refine Below.drew ?_ | with_reducible refine below_drewN ?_ _))
  have HQ0 : Hid (Blk ((w.alloc (.cells #[.slice A l.length c] 22)).alloc (.cells #[.slice A2 ws.length c2] 22)) w.heap.size 22 #[.slice A l.length c]) := (Blk.new w _ _).alloc _
  have HQ1 : Hid (Blk ((w.alloc (.cells #[.slice A l.length c] 22)).alloc (.cells #[.slice A2 ws.length c2] 22)) (w.heap.size + 1) 22 #[.slice A2 ws.length c2]) := by
    have hq := Blk.new (w.alloc (.cells #[.slice A l.length c] 22)) 22 #[.slice A2 ws.length c2]
    simp at hq; exact hq
  have hr0 := (h.below hb0).more hb0.size
  have hr2 := (h2.below hb0).more hb0.size
  have hmf : ∀ (fn : Fn) (first cap : Array Value) (w : World), (Instr.makeFunc fn first cap).run Try.prog w = .ok (.func fn first cap) w := fun _ _ _ _ => rfl
  cases hg : goodS l with
  | false =>
    have hk : okWd l ws = false := by simp [okWd, hg]
    unfold wdL
    simp only [hk, Bool.false_eq_true, if_false, List.length_nil]
    clear hk
    go_enter Try.func16, Try.ntmps16
    go_wp2_with (go_at_call 46; refine (areSamples_any A c l _ hr0 hl).mono ?_; rintro e w1 ⟨rfl, hb1⟩; rw [hg])
    go_ret2
    exact ⟨none, 0, rfl, ⟨Nat.le_refl _, Nat.zero_le _⟩, Own.none_ _ _ _, hb0.trans (hb1.mono hb0.size)⟩
  | true =>
    cases hi : goodW ws with
    | false =>
      have hk : okWd l ws = false := by simp [okWd, hi]
      unfold wdL
      simp only [hk, Bool.false_eq_true, if_false, List.length_nil]
      clear hk
      go_enter Try.func16, Try.ntmps16
      go_wp2_with fail
      refine (areSamples_any A c l _ hr0 hl).mono ?_
      rintro e w1 ⟨rfl, hb1⟩
      have z0 := (HQ0.out.after hb1).cell 0
      have z1 := (HQ1.out.after hb1).cell 0
      simp only [List.getElem?_toArray, List.getElem?_cons_zero] at z0 z1
      have hr3 := hr2.after hb1
      have hB1 := hb0.trans (hb1.mono hb0.size)
      rw [hg]
      go_wp2_with (go_at_call 53; refine (areWeights_any A2 c2 ws _ hr3 hl2).mono ?_; rintro e w2 ⟨rfl, hb2⟩; rw [hi])
      go_ret2
      exact ⟨none, 0, rfl, ⟨Nat.le_refl _, Nat.zero_le _⟩, Own.none_ _ _ _, hB1.trans (hb2.mono hB1.size)⟩
    | true =>
      have hk : okWd l ws = true := by simp [okWd, hi, hg]
      obtain ⟨hl24, hsm⟩ := goodS_iff'.1 hg
      obtain ⟨⟨hw1, hw5⟩, hwb⟩ := goodW_iff.1 hi
      obtain ⟨M, hM⟩ : ∃ M, wdL l ws = M := ⟨_, rfl⟩
      have hMv : M = (List.range l.length).map fun i => wtS l ws i ws.length := by rw [← hM]; unfold wdL; rw [if_pos hk]
      have hMl : M.length = l.length := by rw [hMv]; simp
      rw [hM, hk, hMl]
      have HM := Lib.hid hMv
      clear hk hM hMv hMl
      go_enter Try.func16, Try.ntmps16
      go_wp2_with fail
      refine (areSamples_any A c l _ hr0 hl).mono ?_
      rintro e w1 ⟨rfl, hb1⟩
      have z0 := (HQ0.out.after hb1).cell 0
      have z1 := (HQ1.out.after hb1).cell 0
      simp only [List.getElem?_toArray, List.getElem?_cons_zero] at z0 z1
      have hr3 := hr2.after hb1
      have hB1 := hb0.trans (hb1.mono hb0.size)
      rw [hg]
      go_wp2_with fail
      refine (areWeights_any A2 c2 ws _ hr3 hl2).mono ?_
      rintro e w2 ⟨rfl, hb2⟩
      rw [hi]
      have HQ0' := Lib.hid ((HQ0.out.after hb1).after hb2)
      have HQ1' := Lib.hid ((HQ1.out.after hb1).after hb2)
      have y0 := HQ0'.out.cell 0
      have y1 := HQ1'.out.cell 0
      simp only [List.getElem?_toArray, List.getElem?_cons_zero] at y0 y1
      have hB2 := hB1.trans (hb2.mono hB1.size)
      have hra := (hr0.after hb1).after hb2
      have hrb := hr3.after hb2
      have HE := Lib.hid (each_any 54 #[.pointer (some ⟨w.heap.size + 1, 0, none⟩), .pointer (some ⟨w.heap.size, 0, none⟩)] (enters_of Try.func54 (by kernel_rfl) rfl) A l.length c (fun i => wtS l ws i ws.length)
        (fun _ W => Below w2.heap.size w2 W) none w2 hl (by simp) (Below.refl _ _) (fun _ W W' hW hb => hW.trans hb)
        (fun i W hi _ hW => (Weighted1_any A A2 c c2 l ws i w.heap.size (w.heap.size + 1) W (HQ0'.out.after hW) (HQ1'.out.after hW) (hra.after hW) (hrb.after hW) hsm hl24 hwb hw5 hi).mono fun e w' ⟨he, hw⟩ => ⟨he, hw ▸ hW, hw ▸ only_refl _ _⟩))
      clear hb0 z0 z1 hg hi
      go_wp2_with fail
      refine HE.out.mono ?_
      rintro e w3 ⟨v, rfl, hown, hb3, _⟩
      rw [← HM.out] at hown
      obtain ⟨A', c', rfl, hcc, hrd⟩ := Own.form encI_len hown
      have hMl : M.length = l.length := by rw [HM.out]; simp
      rw [hMl] at hown hcc ⊢
      have Hown := Lib.hid (hown.mono (show w.heap.size ≤ w2.heap.size from hB2.size))
      clear hown hrd y0 y1 hMl
      go_wp2
      go_ret2
      exact ⟨_, _, rfl, hcc, Hown.out, hB2.trans (hb3.mono hB2.size)⟩

set_option maxRecDepth 100000 in
set_option maxHeartbeats 1000000 in
theorem sWeighted_any (A A2 : Option Addr) (c c2 : Nat) (l ws : List Int) (w : World) (h : Rd encI 1 w w.heap.size A l) (h2 : Rd encI 1 w w.heap.size A2 ws) (hl : l.length ≤ 1048576) (hl2 : ws.length ≤ 1048576) :
    Calls Try.prog 15 #[.slice A l.length c, .slice A2 ws.length c2] w fun e w' => ∃ A' c', e = .returned (.tuple #[.slice A' (wdL l ws).length c', .bool (okWd l ws)]) ∧ ((wdL l ws).length ≤ c' ∧ c' ≤ maxLen) ∧ Own encI 1 w' w.heap.size 3 (.slice A' (wdL l ws).length c') (wdL l ws) ∧ Below w.heap.size w w' := by
  have hb0 : Below w.heap.size w (w.alloc (.cells #[] 3)) := by (repeat (first | with_reducible exact Below.refl _ _ | with_reducible assumption | with_reducible refine Below.setCell ?_ (by simp <;> omega) _ | with_reducible refine Below.alloc ?_ (by first | omega | (simp <;> omega)) _ | with_reducible refine Below.drew ?_ | with_reducible refine below_drewN ?_ _))
  have hr0 := (h.below hb0).more hb0.size
  have hr2 := (h2.below hb0).more hb0.size
  have Ho := Lib.hid (Own.empty (enc := encI) (k := 1) w w.heap.size 3 (Nat.le_refl _))
  cases hg : goodS l with
  | false =>
    have hk : okWd l ws = false := by simp [okWd, hg]
    unfold wdL
    simp only [hk, Bool.false_eq_true, if_false, List.length_nil]
    clear hk
    go_enter Try.func15, Try.ntmps15
    go_wp2_with (go_at_call 51; refine (l2Samples_any A c l _ _ hr0 hl).mono ?_; rintro e w1 ⟨rfl, rfl⟩; rw [hg])
    go_ret2
    exact ⟨_, 0, rfl, ⟨Nat.le_refl _, Nat.zero_le _⟩, Ho.out, hb0⟩
  | true =>
    cases hi : goodW ws with
    | false =>
      have hk : okWd l ws = false := by simp [okWd, hi]
      unfold wdL
      simp only [hk, Bool.false_eq_true, if_false, List.length_nil]
      clear hk
      go_enter Try.func15, Try.ntmps15
      go_wp2_with (first | (go_at_call 51; refine (l2Samples_any A c l _ _ hr0 hl).mono ?_; rintro e w1 ⟨rfl, rfl⟩; rw [hg]) | (go_at_call 52; refine (l6Weights_any A2 c2 ws _ _ hr2 hl2).mono ?_; rintro e w1 ⟨rfl, rfl⟩; rw [hi]))
      go_ret2
      exact ⟨_, 0, rfl, ⟨Nat.le_refl _, Nat.zero_le _⟩, Ho.out, hb0⟩
    | true =>
      have hk : okWd l ws = true := by simp [okWd, hi, hg]
      obtain ⟨hl24, hsm⟩ := goodS_iff'.1 hg
      obtain ⟨⟨hw1, hw5⟩, hwb⟩ := goodW_iff.1 hi
      obtain ⟨i0, hi0, hz0, hz1, hz2⟩ := info_parts infoI
      obtain ⟨M, hM⟩ : ∃ M, wdL l ws = M := ⟨_, rfl⟩
      have hMv : M = (List.range l.length).map fun i => wtS l ws i ws.length := by rw [← hM]; unfold wdL; rw [if_pos hk]
      have hMl : M.length = l.length := by rw [hMv]; simp
      rw [hM, hk, hMl]
      have HM := Lib.hid hMv
      clear hk hM hMv hMl
      go_enter Try.func15, Try.ntmps15
      go_wp2_with (first | (go_at_call 51; refine (l2Samples_any A c l _ _ hr0 hl).mono ?_; rintro e w1 ⟨rfl, rfl⟩; rw [hg]) | (go_at_call 52; refine (l6Weights_any A2 c2 ws _ _ hr2 hl2).mono ?_; rintro e w1 ⟨rfl, rfl⟩; rw [hi]))
      clear hg hi
      go_loopw [6, 7] (fun v i wr => ∃ k : Nat, k ≤ l.length ∧ i = .int .i64 k ∧ Hid (Own encI 1 wr w.heap.size 3 v ((List.range k).map fun i => wtS l ws i ws.length)) ∧ Below w.heap.size w wr) (fun _ i _ => l.length - (intOf i).toNat)
      case atStart => exact ⟨0, Nat.zero_le _, rfl, Ho.out, hb0⟩
      case round =>
        obtain ⟨k, hkl, rfl, hown, hbl⟩ := hrel
        by_cases hlt : k < l.length
        · have hnx : (List.range (k + 1)).map (fun i => wtS l ws i ws.length) = (List.range k).map (fun i => wtS l ws i ws.length) ++ [wtS l ws k ws.length] := by rw [List.range_succ, List.map_append]; rfl
          have hfl : ((List.range k).map fun i => wtS l ws i ws.length).length ≤ 1048576 := by rw [List.length_map, List.length_range]; omega
          obtain ⟨M2, hM2⟩ : ∃ M2, (List.range k).map (fun i => wtS l ws i ws.length) = M2 := ⟨_, rfl⟩
          rw [hM2] at hnx hown hfl
          obtain ⟨B', d', rfl, hcd, _⟩ := Own.form encI_len hown.out
          have hsz := hbl.size
          obtain ⟨S, hS⟩ : ∃ S : Nat → Int, wtS l ws k = S := ⟨_, rfl⟩
          have hbd := wtS_bd hsm hwb k hlt
          have hstop := @wtS_stop l ws k
          rw [hS] at hbd hnx hstop
          have Hnx := Lib.hid hnx
          have HS := Lib.hid hS
          have Hbd := Lib.hid hbd
          have Hstop := Lib.hid hstop
          clear hM2 hnx hS hbd hstop
          go_wp2
          go_loopw [8, 9] (fun t j W => ∃ q : Nat, q ≤ ws.length ∧ q ≤ k + 1 ∧ j = .int .i64 q ∧ t = .int .i64 (S q) ∧ ∃ n, W = wr.drewN n) (fun _ j _ => ws.length - (intOf j).toNat)
          case atStart => exact ⟨0, Nat.zero_le _, Nat.zero_le _, rfl, by rw [← HS.out]; rfl, 0, rfl⟩
          case round =>
            rename_i wq
            obtain ⟨q, hq, hqk, rfl, rfl, nd, rfl⟩ := hrel
            by_cases hqlt : q < ws.length ∧ q ≤ k
            · obtain ⟨hq1, hq2⟩ := hqlt
              obtain ⟨b, off, rfl, hb, d0⟩ := cellsI (h2.below hbl) hq1
              have hkq : k - q < l.length := by omega
              obtain ⟨b', off', rfl, hb', e0⟩ := cellsI (h.below hbl) hkq
              have hwk := hwb _ (List.getElem_mem hq1)
              have hlk := hsm _ (List.getElem_mem hkq)
              have hb1 := Hbd.out q hq
              have hst : S (q + 1) = if q ≤ k then S q + ws.getD q 0 * l.getD (k - q) 0 else S q := by rw [← HS.out]; rfl
              have ha : ws.getD q 0 = ws[q] := by rw [List.getD_eq_getElem?_getD, List.getElem?_eq_getElem hq1]; rfl
              have ha2 : l.getD (k - q) 0 = l[k - q] := by rw [List.getD_eq_getElem?_getD, List.getElem?_eq_getElem hkq]; rfl
              rw [if_pos hq2, ha, ha2] at hst
              generalize l[k - q] = y at *
              generalize ws[q] = x at *
              have hm := mul_bd hwk.1 hwk.2 hlk.1 hlk.2
              obtain ⟨m1, m2⟩ := hm
              have Hst := Lib.hid hst
              have hki' : (q : Int) ≤ (k : Int) := by omega
              have hql' : (q : Int) < (ws.length : Int) := by omega
              clear hst ha ha2
              generalize hT : S q = T at *
              clear hT
              go_wp2_with fail
              go_quiet (fail)
              go_wp2
              go_roundw
              case rel => exact ⟨q + 1, by omega, by omega, by go_num, by rw [Hst.out], _, rfl⟩
              case measure => simp [intOf]; omega
            · have hSe : S ws.length = S q := by
                by_cases h3 : q < ws.length
                · have h4 : k < q := by omega
                  have := Hstop.out q (ws.length - q) h4
                  rw [show q + (ws.length - q) = ws.length by omega] at this
                  exact this
                · rw [show q = ws.length by omega]
              rw [hSe] at Hnx
              generalize hT : S q = T at *
              clear hT hSe
              have hown1 : Own encI 1 (wr.drewN nd) w.heap.size 3 (.slice B' M2.length d') M2 := hown.out.keep (below_drewN (Below.refl _ _) _)
              have Hown1 := Lib.hid hown1
              have hbl1 := below_drewN hbl nd
              generalize wr.drewN nd = wz at *
              have hsz1 := hbl1.size
              clear hown1
              by_cases h3 : q < ws.length
              · have h4 : ¬ (q : Int) ≤ (k : Int) := by omega
                clear hqlt
                go_wp2_with (at_builtin; refine wpList_app1 rfl _ _ 22 rfl w.heap.size 3 i0 _ 1 8 Try.underlying22 hi0 hz0 hz1 hz2 rfl (by omega) (by omega) encI encI_len encI_one (.slice B' M2.length d') M2 T wz _ rfl _ rfl Hown1.out rfl hfl (by omega) ?_; intro v' w2 hown2 hb2 _)
                have Hown2 := Lib.hid hown2
                have hbl2 := hbl1.trans hb2
                clear hown2 hb2
                go_wp2
                go_roundw
                case rel => exact ⟨k + 1, by omega, by go_num, by rw [Hnx.out]; exact Hown2.out, hbl2⟩
                case measure => simp [intOf]; omega
              · clear hqlt
                go_wp2_with (at_builtin; refine wpList_app1 rfl _ _ 22 rfl w.heap.size 3 i0 _ 1 8 Try.underlying22 hi0 hz0 hz1 hz2 rfl (by omega) (by omega) encI encI_len encI_one (.slice B' M2.length d') M2 T wz _ rfl _ rfl Hown1.out rfl hfl (by omega) ?_; intro v' w2 hown2 hb2 _)
                have Hown2 := Lib.hid hown2
                have hbl2 := hbl1.trans hb2
                clear hown2 hb2
                go_wp2
                go_roundw
                case rel => exact ⟨k + 1, by omega, by go_num, by rw [Hnx.out]; exact Hown2.out, hbl2⟩
                case measure => simp [intOf]; omega
        · have hke : k = l.length := by omega
          have hown' : Own encI 1 wr w.heap.size 3 u6 M := by rw [HM.out, ← hke]; exact hown.out
          obtain ⟨B', d', e6, hcd, _⟩ := Own.form encI_len hown'
          have hMl : M.length = l.length := by rw [HM.out]; simp
          rw [hMl] at e6 hcd
          subst e6
          have Hown := Lib.hid hown'
          clear hown hown' hke hMl
          go_wp2
          go_ret2
          exact ⟨_, _, rfl, hcd, Hown.out, hbl⟩

end Go.Proofs.Ytabnnkallgcmgaa
