/-
  Contract of the program's CurrentPicks. (Printed by gen_A11.py.)
-/
import Derived.Test.YtiakaglgfboepaaSrt
import Derived.Test.YtiakaglgfboepaaInts
import Derived.Test.YtiakaglgfboepaaPr2
import Derived.Test.YtiakaglgfboepaaWithd
namespace Go.Proofs.Ytiakaglgfboepaa
set_option linter.unusedVariables false
open Go.RowKit

theorem CurrentPicks1_any (q : Nat) (A : Option Addr) (c : Nat) (l : List Pick) (x : Pick) (W : World) (hq : Blk W q 31 #[.slice A l.length c]) (h : Rd encP 7 W W.heap.size A l) (hl : l.length ≤ 1048576) :
    Calls Try.prog 85 #[.agg #[.int .i64 x.id, .int .i64 x.station, .int .i64 x.wave, .int .i64 x.tick, .int .i64 x.err, .int .i64 x.by_, .int .i64 x.after_], .pointer (some ⟨q, 0, none⟩)] W fun e w' => e = .returned (.bool (curP l x.id)) ∧ Below W.heap.size W w' := by
  have hB0 : Below W.heap.size W (W.alloc (.cells #[.int .i64 x.id, .int .i64 x.station, .int .i64 x.wave, .int .i64 x.tick, .int .i64 x.err, .int .i64 x.by_, .int .i64 x.after_] 25)) := by (repeat (first | with_reducible exact Below.refl _ _ | with_reducible assumption | with_reducible refine Below.setCell ?_ (by simp <;> omega) _ | with_reducible refine Below.alloc ?_ (by first | omega | (simp <;> omega)) _ | with_reducible refine Below.drew ?_ | with_reducible refine below_drewN ?_ _))
  have hr := (h.below hB0).more hB0.size
  have hql := hq.lt
  have hqn : ¬ q = W.heap.size := by omega
  have c0 := (hq.after hB0).cell 0
  have d0 := hq.cell 0
  simp only [List.getElem?_toArray, List.getElem?_cons_zero] at c0 d0
  have Hc := Lib.hid (isCurrent_any A c l _ hr hl x)
  clear hr hq
  go_enter Try.func85, Try.ntmps85
  go_wp2_with fail
  refine Hc.out.mono ?_
  rintro e w1 ⟨rfl, hb1⟩
  go_wp2
  go_ret
  exact ⟨rfl, hB0.trans (hb1.mono hB0.size)⟩

set_option maxRecDepth 100000 in
set_option maxHeartbeats 2000000 in
theorem CurrentPicks_any (A : Option Addr) (c : Nat) (l : List Pick) (w : World) (h : Rd encP 7 w w.heap.size A l) (hl : l.length ≤ 1048576) :
    Calls Try.prog 46 #[.slice A l.length c] w fun e w' => ∃ A' c', e = .returned (.tuple #[.slice A' (cuL l).length c', .bool (picksS l)]) ∧ ((cuL l).length ≤ c' ∧ c' ≤ maxLen) ∧ Own encI 1 w' w.heap.size 3 (.slice A' (cuL l).length c') (cuL l) ∧ Below w.heap.size w w' := by
  unfold cuL
  obtain ⟨W0, hW0⟩ : ∃ W0, W0 = (w.alloc (.cells #[.slice A l.length c] 31)) := ⟨_, rfl⟩
  have hB0 : Below w.heap.size w W0 := by rw [hW0]; (repeat (first | with_reducible exact Below.refl _ _ | with_reducible assumption | with_reducible refine Below.setCell ?_ (by simp <;> omega) _ | with_reducible refine Below.alloc ?_ (by first | omega | (simp <;> omega)) _ | with_reducible refine Below.drew ?_ | with_reducible refine below_drewN ?_ _))
  have hL0 : Blk W0 w.heap.size 31 #[.slice A l.length c] := by rw [hW0]; exact Blk.new w _ _
  have hr0 := (h.below hB0).more hB0.size
  have HL0 := Lib.hid hL0
  have HR0 := Lib.hid hr0
  have HB0 := Lib.hid hB0
  cases hp : picksS l with
  | false =>
    simp only [Bool.false_eq_true, if_false, List.length_nil]
    rw [hW0] at hr0
    clear hL0 hB0 HR0 HL0
    have HW0 := Lib.hid hW0
    clear hW0
    go_enter Try.func46, Try.ntmps46
    go_wp2_with fail
    refine (ArePicks_any A c l _ hr0 hl).mono ?_
    rintro e w1 ⟨rfl, hb1⟩
    rw [← HW0.out] at hb1
    rw [hp]
    go_wp2
    go_ret2
    exact ⟨none, 0, rfl, ⟨Nat.le_refl _, Nat.zero_le _⟩, Own.none_ _ _ _, HB0.out.trans (hb1.mono HB0.out.size)⟩
  | true =>
    simp only [if_true]
    have h12 := (picksS_iff hp).2.1
    have hnl := nowP_len l
    obtain ⟨N, hN⟩ : ∃ N, nowP l = N := ⟨_, rfl⟩
    rw [hN] at hnl ⊢
    obtain ⟨M, hM⟩ : ∃ M, sortL Pick.tick N = M := ⟨_, rfl⟩
    have hMl : M.length ≤ 12 := by rw [← hM, sortL_len]; omega
    have hMN : M.length = N.length := by rw [← hM, sortL_len]
    rw [hM]
    have HM := Lib.hid hM
    have HMN := Lib.hid hMN
    obtain ⟨i0, hi, hz0, hz1, hz2⟩ := info_parts infoI
    have HF := Lib.hid (fun (W : World) (hW : Below W0.heap.size W0 W) => filterP_any 85 #[.pointer (some ⟨w.heap.size, 0, none⟩)] (enters_of Try.func85 (by kernel_rfl) rfl) A c l (fun p => curP l p.id) W (HR0.out.after hW) hl (fun W' x _ hW' => CurrentPicks1_any w.heap.size A c l x W' ((HL0.out.after hW).after hW') ((HR0.out.after hW).after hW') hl))
    rw [show (l.filter fun p => curP l p.id) = N from hN] at HF
    have hmf : ∀ (fn : Fn) (first cap : Array Value) (w : World), (Instr.makeFunc fn first cap).run Try.prog w = .ok (.func fn first cap) w := fun _ _ _ _ => rfl
    have HC := Lib.hid (fun (W : World) (hW : Below W0.heap.size W0 W) => (show W.cell? ⟨w.heap.size, 0, none⟩ = some (.slice A l.length c) from by have := (HL0.out.after hW).cell 0; simpa using this))
    rw [hW0] at hr0
    have HW0 := Lib.hid hW0
    clear hL0 hB0 hW0 hN hM hMN HL0 HR0
    go_enter Try.func46, Try.ntmps46
    go_wp2_with fail
    refine (ArePicks_any A c l _ hr0 hl).mono ?_
    rintro e w1 ⟨rfl, hb1⟩
    rw [← HW0.out] at hb1
    rw [hp]
    have z0 := HC.out w1 hb1
    have HB1 := Lib.hid hb1
    clear hb1 hr0 HW0 hp
    go_wp2_with fail
    refine (HF.out w1 HB1.out).mono ?_
    rintro e w2 ⟨v, rfl, hown, hb2⟩
    obtain ⟨AN, cN, rfl, hcN, _⟩ := Own.form encP_len hown
    have HO2 := Lib.hid hown
    have HB2 := Lib.hid (HB1.out.trans (hb2.mono HB1.out.size))
    have hs1 := HB1.out.size
    have hs0 := HB0.out.size
    clear hown hb2 z0
    go_wp2_with fail
    refine (sortStable_any AN cN w1.heap.size N w2 HO2.out (by omega)).mono ?_
    rintro e w3 ⟨rfl, hown3, hg3⟩
    rw [HM.out] at hown3
    have HB3 := Lib.hid (HB0.out.trans (show Below w.heap.size W0 w3 from ⟨hg3.os.trans HB2.out.os, hg3.tape.trans HB2.out.tape, hg3.output.trans HB2.out.output, Nat.le_trans HB2.out.size hg3.size, fun j hj => (hg3.block j (by have := HB2.out.size; omega) (fun e => by have := (HO2.out.lt j e.symm).1; omega)).trans (HB2.out.block j (by omega))⟩))
    have HOM3 : Hid (Own encP 7 w3 w1.heap.size 25 (.slice AN M.length cN) M) := by show Own _ _ _ _ _ _ _; rw [HMN.out]; exact hown3
    rw [← HMN.out]
    clear hown3 hg3
    have hs3 := HB3.out.size
    have hbe : Below w3.heap.size w3 (w3.alloc (.cells #[] 3)) := by (repeat (first | with_reducible exact Below.refl _ _ | with_reducible assumption | with_reducible refine Below.setCell ?_ (by simp <;> omega) _ | with_reducible refine Below.alloc ?_ (by first | omega | (simp <;> omega)) _ | with_reducible refine Below.drew ?_ | with_reducible refine below_drewN ?_ _))
    have HOM := Lib.hid (HOM3.out.keep hbe)
    have HOI := Lib.hid (Own.empty (enc := encI) (k := 1) w3 w.heap.size 3 hs3)
    have HBI := Lib.hid (HB3.out.trans (hbe.mono hs3))
    obtain ⟨wm, hwm⟩ : ∃ wm, wm = w3.alloc (.cells #[] 3) := ⟨_, rfl⟩
    rw [← hwm] at HOM
    have HOff : Hid (Off 3 wm (w3.alloc (.cells #[] 3))) := by show Off _ _ _; rw [hwm]; exact Off.refl _ _
    clear hbe hwm
    go_wp2
    go_loopw [5, 19] (fun v i wr => ∃ k : Nat, k ≤ M.length ∧ i = .int .i64 k ∧ Hid (Own encI 1 wr w.heap.size 3 v ((M.take k).map Pick.id)) ∧ Hid (Off 3 wm wr) ∧ Hid (Below w.heap.size w wr)) (fun _ i _ => M.length - (intOf i).toNat)
    case atStart => exact ⟨0, Nat.zero_le _, rfl, (by show Own _ _ _ _ _ _ _; simpa using HOI.out), HOff.out, HBI.out⟩
    case round =>
      obtain ⟨k, hkM, rfl, hown, hoff, hbl⟩ := hrel
      by_cases hlt : k < M.length
      · have hnx : (M.take (k + 1)).map Pick.id = (M.take k).map Pick.id ++ [M[k].id] := by rw [List.take_succ_eq_append_getElem hlt, List.map_append]; rfl
        have hfl : ((M.take k).map Pick.id).length ≤ 1048576 := by rw [List.length_map, List.length_take]; omega
        obtain ⟨b, off, e', hb, c0, c1, c2, c3, c4, c5, c6⟩ := cellsP (Own.rd' encP_len (HOM.out.off (by decide) hoff.out)) hlt
        first | subst e' | (injection e' with e'; injection e' with e1 e2; subst e1 e2)
        obtain ⟨L, hL⟩ : ∃ L, (M.take k).map Pick.id = L := ⟨_, rfl⟩
        obtain ⟨x, hx⟩ : ∃ x, M[k] = x := ⟨_, rfl⟩
        rw [hL] at hnx hfl hown
        rw [hx] at hnx c0 c1 c2 c3 c4 c5 c6
        have Hnx := Lib.hid hnx
        have hsz := hbl.out.size
        have hkz : (k : Int) < (M.length : Int) := by omega
        clear hL hx hnx
        have hBx : Below wr.heap.size wr (wr.alloc (.cells #[.int .i64 x.id, .int .i64 x.station, .int .i64 x.wave, .int .i64 x.tick, .int .i64 x.err, .int .i64 x.by_, .int .i64 x.after_] 25)) := by (repeat (first | with_reducible exact Below.refl _ _ | with_reducible assumption | with_reducible refine Below.setCell ?_ (by simp <;> omega) _ | with_reducible refine Below.alloc ?_ (by first | omega | (simp <;> omega)) _ | with_reducible refine Below.drew ?_ | with_reducible refine below_drewN ?_ _))
        have HX := box7 (Blk.new wr 25 #[.int .i64 x.id, .int .i64 x.station, .int .i64 x.wave, .int .i64 x.tick, .int .i64 x.err, .int .i64 x.by_, .int .i64 x.after_])
        have HOx := Lib.hid (hown.out.keep hBx)
        have HFx := Lib.hid (hoff.out.trans (Off.of_below hBx))
        have HBx := Lib.hid (hbl.out.trans (hBx.mono hsz))
        obtain ⟨A9, c9, rfl, _, _⟩ := Own.form encI_len hown.out
        clear hown hoff hBx HX
        go_wp2_with (at_builtin; refine wpList_app1q rfl _ _ 42 rfl w.heap.size 3 i0 _ 1 8 Try.underlying42 hi hz0 hz1 hz2 rfl (by omega) (by omega) encI encI_len encI_one (.slice A9 L.length c9) L x.id (wr.alloc (.cells #[.int .i64 x.id, .int .i64 x.station, .int .i64 x.wave, .int .i64 x.tick, .int .i64 x.err, .int .i64 x.by_, .int .i64 x.after_] 25)) _ rfl _ (wr.heap.size + 1) (by simp) rfl HOx.out rfl hfl (by simp; omega) ?_; intro v9 w9 hown9 hb9 hg9)
        have HO9 := Lib.hid hown9
        have HF9 := Lib.hid (HFx.out.trans (Off.of_grown HOx.out hg9))
        have HB9 := Lib.hid (HBx.out.trans hb9)
        clear hown9 hb9 hg9 c0 c1 c2 c3 c4 c5 c6
        go_wp2
        go_roundw
        case rel => exact ⟨k + 1, by omega, by go_num, by rw [Hnx.out]; exact HO9.out, HF9.out, HB9.out⟩
        case measure => simp [intOf]; omega
      · have hke : k = M.length := by omega
        subst hke
        rw [List.take_length] at hown
        obtain ⟨A9, c9, rfl, hc9, _⟩ := Own.form encI_len hown.out
        have HO9 := Lib.hid hown.out
        clear hown
        go_wp2
        go_ret2
        exact ⟨_, _, rfl, hc9, HO9.out, hbl.out⟩
end Go.Proofs.Ytiakaglgfboepaa
