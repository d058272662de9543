/-
  Contracts of Clipped. (Printed by gen_F3.py.)
-/
import Derived.Test.YtabnnkallgcmgaaEvM
namespace Go.Proofs.Ytabnnkallgcmgaa
set_option linter.unusedVariables false
open Go.RowKit

def clF (l : List Int) (n : Int) (i : Nat) : Int := max (-n) (min n (l.getD i 0))
set_option maxRecDepth 100000 in
set_option maxHeartbeats 400000 in
theorem Clipped1_any (A : Option Addr) (c : Nat) (l : List Int) (n : Int) (i : Nat) (q0 q1 : Nat) (W : World) (h0 : Blk W q0 22 #[.slice A l.length c]) (h1 : Blk W q1 3 #[.int .i64 n]) (h : Rd encI 1 W W.heap.size A l) (hs : Sm l) (hl : l.length ≤ 24) (hc : l.length ≤ c ∧ c ≤ maxLen) (hn1 : 0 ≤ n) (hn2 : n ≤ 100000) (hi : i < l.length) :
    Calls Try.prog 70 #[.int .i64 i, .pointer (some ⟨q1, 0, none⟩), .pointer (some ⟨q0, 0, none⟩)] W fun e w' => e = .returned (.int .i64 (clF l n i)) ∧ Below W.heap.size W w' := by
  have c0 := h0.cell 0
  have c1 := h1.cell 0
  simp only [List.getElem?_toArray, List.getElem?_cons_zero] at c0 c1
  obtain ⟨b, off, rfl, hb, cc⟩ := cellsI h hi
  have hx := hs _ (List.getElem_mem hi)
  have hf : clF l n i = max (-n) (min n l[i]) := by unfold clF; rw [getD_at hi]
  rw [hf]
  generalize l[i] = x at *
  clear hf
  go_enter Try.func70, Try.ntmps70
  go_wp2_with fail
  go_quiet (fail)
  go_wp2
  all_goals go_ret
  all_goals exact ⟨ret_int (by omega), below_drewN (Below.refl _ _) _⟩

set_option maxRecDepth 100000 in
set_option maxHeartbeats 400000 in
theorem Clipped_any (A : Option Addr) (c : Nat) (l : List Int) (n : Int) (w : World) (h : Rd encI 1 w w.heap.size A l) (hl : l.length ≤ 1048576) (hc : l.length ≤ c ∧ c ≤ maxLen) :
    Calls Try.prog 39 #[.slice A l.length c, .int .i64 n] w fun e w' => ∃ A' c', e = .returned (.tuple #[.slice A' (evL 0 100000 clF l n).length c', .bool (okA 0 100000 l n)]) ∧ ((evL 0 100000 clF l n).length ≤ c' ∧ c' ≤ maxLen) ∧ Own encI 1 w' w.heap.size 3 (.slice A' (evL 0 100000 clF l n).length c') (evL 0 100000 clF l n) ∧ Below w.heap.size w w' := by
  have hb0 : Below w.heap.size w ((w.alloc (.cells #[.slice A l.length c] 22)).alloc (.cells #[.int .i64 n] 3)) := by (repeat (first | with_reducible exact Below.refl _ _ | with_reducible assumption | with_reducible refine Below.setCell ?_ (by simp <;> omega) _ | with_reducible refine Below.alloc ?_ (by first | omega | (simp <;> omega)) _ | with_reducible refine Below.drew ?_ | with_reducible refine below_drewN ?_ _))
  have HQ0 : Hid (Blk ((w.alloc (.cells #[.slice A l.length c] 22)).alloc (.cells #[.int .i64 n] 3)) w.heap.size 22 #[.slice A l.length c]) := (Blk.new w _ _).alloc _
  have HQ1 : Hid (Blk ((w.alloc (.cells #[.slice A l.length c] 22)).alloc (.cells #[.int .i64 n] 3)) (w.heap.size + 1) 3 #[.int .i64 n]) := by
    have hq := Blk.new (w.alloc (.cells #[.slice A l.length c] 22)) 3 #[.int .i64 n]
    simp at hq; exact hq
  have hr0 := (h.below hb0).more hb0.size
  have hmf : ∀ (fn : Fn) (first cap : Array Value) (w : World), (Instr.makeFunc fn first cap).run Try.prog w = .ok (.func fn first cap) w := fun _ _ _ _ => rfl
  cases hg : goodS l with
  | false =>
    have hk : okA 0 100000 l n = false := by simp [okA, hg]
    rw [evL_no hk, hk]
    simp only [List.length_nil]
    clear hk
    go_enter Try.func39, Try.ntmps39
    go_wp2_with (go_at_call 46; refine (areSamples_any A c l _ hr0 hl).mono ?_; rintro e w1 ⟨rfl, hb1⟩; rw [hg])
    go_ret2
    exact ⟨none, 0, rfl, ⟨Nat.le_refl _, Nat.zero_le _⟩, Own.none_ _ _ _, hb0.trans (hb1.mono hb0.size)⟩
  | true =>
    cases hi : inB n 0 100000 with
    | false =>
      have hk : okA 0 100000 l n = false := by simp [okA, hi]
      rw [evL_no hk, hk]
      simp only [List.length_nil]
      clear hk
      go_enter Try.func39, Try.ntmps39
      go_wp2_with fail
      refine (areSamples_any A c l _ hr0 hl).mono ?_
      rintro e w1 ⟨rfl, hb1⟩
      have z0 := (HQ0.out.after hb1).cell 0
      have z1 := (HQ1.out.after hb1).cell 0
      simp only [List.getElem?_toArray, List.getElem?_cons_zero] at z0 z1
      rw [hg]
      go_wp2_with (go_at_call 47; refine (in_any _ _ _ _).mono ?_; rintro e w' ⟨rfl, rfl⟩; rw [hi])
      go_ret2
      exact ⟨none, 0, rfl, ⟨Nat.le_refl _, Nat.zero_le _⟩, Own.none_ _ _ _, hb0.trans (hb1.mono hb0.size)⟩
    | true =>
      have hk : okA 0 100000 l n = true := by simp [okA, hi, hg]
      obtain ⟨⟨hl24, hsm⟩, hn1, hn2⟩ := okA_iff.1 hk
      obtain ⟨M, hM⟩ : ∃ M, evL 0 100000 clF l n = M := ⟨_, rfl⟩
      have hm : M = (List.range l.length).map (clF l n) := by rw [← hM, evL_yes hk]
      have hlen : M.length = l.length := by rw [hm]; simp
      rw [hM, hk, hlen]
      have Hm := Lib.hid hm
      have Hlen := Lib.hid hlen
      clear hk hm hlen hM
      go_enter Try.func39, Try.ntmps39
      go_wp2_with fail
      refine (areSamples_any A c l _ hr0 hl).mono ?_
      rintro e w1 ⟨rfl, hb1⟩
      have hB1 := hb0.trans (hb1.mono hb0.size)
      have HQ0' := Lib.hid (HQ0.out.after hb1)
      have HQ1' := Lib.hid (HQ1.out.after hb1)
      have z0 := HQ0'.out.cell 0
      have z1 := HQ1'.out.cell 0
      simp only [List.getElem?_toArray, List.getElem?_cons_zero] at z0 z1
      have hr1 := hr0.after hb1
      have HE := Lib.hid (each_any 70 #[.pointer (some ⟨w.heap.size + 1, 0, none⟩), .pointer (some ⟨w.heap.size, 0, none⟩)] (enters_of Try.func70 (by kernel_rfl) rfl) A l.length c (clF l n)
        (fun _ W => Below w1.heap.size w1 W) none w1 hl (by simp) (Below.refl _ _) (fun _ W W' hW hb => hW.trans hb)
        (fun i W hi _ hW => (Clipped1_any A c l n i w.heap.size (w.heap.size + 1) W (HQ0'.out.after hW) (HQ1'.out.after hW) (hr1.after hW) hsm hl24 hc hn1 hn2 hi).mono fun e w' ⟨he, hw⟩ => ⟨he, hW.trans (hw.mono hW.size), grownBy_of_below hw⟩))
      rw [hg]
      clear hb0
      go_wp2_with (go_at_call 47; refine (in_any _ _ _ _).mono ?_; rintro e w' ⟨rfl, rfl⟩; rw [hi])
      refine HE.out.mono ?_
      rintro e w2 ⟨v, rfl, hown, hb2, _⟩
      rw [← Hm.out] at hown
      obtain ⟨A', c', rfl, hcc, hrd⟩ := Own.form encI_len hown
      rw [Hlen.out] at hown hcc ⊢
      have Hown := Lib.hid (hown.mono (show w.heap.size ≤ w1.heap.size from hB1.size))
      clear hown hrd z0 z1
      go_wp2
      go_ret2
      exact ⟨_, _, rfl, hcc, Hown.out, hB1.trans (hb2.mono hB1.size)⟩

end Go.Proofs.Ytabnnkallgcmgaa
