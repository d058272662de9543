/-
  Contracts of MovingSums. (Printed by gen_F1.py.)
-/
import Derived.Test.YtabnnkallgcmgaaEach
namespace Go.Proofs.Ytabnnkallgcmgaa
set_option linter.unusedVariables false
open Go.RowKit

/-- The samples from at most n places ahead up to a place. -/
def winB (l : List Int) (n i : Nat) : List Int := (l.drop (i + 1 - n)).take (i + 1 - (i + 1 - n))
theorem winB_len {l : List Int} {n i : Nat} (hi : i < l.length) : (winB l n i).length = i + 1 - (i + 1 - n) := by simp [winB]; omega
def okMS (l : List Int) (n : Int) : Bool := goodS l && inB n 1 10
theorem okMS_iff {l : List Int} {n : Int} : okMS l n = true ↔ (l.length ≤ 24 ∧ Sm l) ∧ 1 ≤ n ∧ n ≤ 10 := by
  simp only [okMS, Bool.and_eq_true, goodS_iff, inB_iff]; rfl
def msL (l : List Int) (n : Int) : List Int := if okMS l n then (List.range l.length).map fun i => sumI (winB l n.toNat i) else []
theorem msL_len {l : List Int} {n : Int} : (msL l n).length ≤ 1048576 := by
  unfold msL
  split
  · rename_i h
    have := (okMS_iff.1 h).1.1
    simp; omega
  · simp

set_option maxRecDepth 100000 in
set_option maxHeartbeats 400000 in
theorem MovingSums1_any (A : Option Addr) (c : Nat) (l : List Int) (n i : Nat) (q0 q1 : Nat) (W : World) (h0 : Blk W q0 22 #[.slice A l.length c]) (h1 : Blk W q1 3 #[.int .i64 n]) (h : Rd encI 1 W W.heap.size A l) (hs : Sm l) (hl : l.length ≤ 24) (hc : l.length ≤ c ∧ c ≤ maxLen) (hn1 : 1 ≤ n) (hn2 : n ≤ 10) (hi : i < l.length) :
    Calls Try.prog 49 #[.int .i64 i, .pointer (some ⟨q0, 0, none⟩), .pointer (some ⟨q1, 0, none⟩)] W fun e w' => e = .returned (.int .i64 (sumI (winB l n i))) ∧ W = w' := by
  have c0 := h0.cell 0
  have c1 := h1.cell 0
  simp only [List.getElem?_toArray, List.getElem?_cons_zero] at c0 c1
  obtain ⟨b, off, rfl, hb, cc⟩ := cellsI h hi
  clear cc
  obtain ⟨hc1, hc2⟩ := hc
  unfold maxLen at hc2
  have hwl := winB_len (l := l) (n := n) hi
  have hws : Sm (winB l n i) := (hs.drop _).take _
  by_cases hlo : (n : Int) ≤ i
  · have hR : Rd encI 1 W W.heap.size (some ⟨b, off + (i - n + 1), none⟩) (winB l n i) := by
      have := (h.drop (i + 1 - n)).take (i + 1 - (i + 1 - n))
      rw [Nat.mul_one] at this
      rw [show i - n + 1 = i + 1 - n by omega]
      exact this
    have hlen : (winB l n i).length = i - (i - n) := by omega
    have hsz := fun A m c' V B h1 h2 => sum_any A m c' (winB l n i) V B h1 h2 hws (by omega)
    have HR := Lib.hid hR
    have Hlen := Lib.hid hlen
    have Hsz := Lib.hid hsz
    generalize sumI (winB l n i) = S at *
    generalize winB l n i = V at *
    have hmx : (0 : Int) ≤ (i : Int) - n + 1 := by omega
    clear hR hlen hsz hwl
    go_enter Try.func49, Try.ntmps49
    go_wp2_with fail
    refine (Hsz.out _ _ _ _ W.heap.size Hlen.out HR.out).mono ?_
    rintro e w1 ⟨rfl, rfl⟩
    go_wp2
    go_ret
    exact ⟨rfl, rfl⟩
  · have e0 : i + 1 - n = 0 := by omega
    have hR : Rd encI 1 W W.heap.size (some ⟨b, off, none⟩) (winB l n i) := by
      have := h.take (i + 1)
      unfold winB
      rw [e0, List.drop_zero, Nat.sub_zero]
      exact this
    have hlen : (winB l n i).length = i + 1 := by omega
    have hsz := fun A m c' V B h1 h2 => sum_any A m c' (winB l n i) V B h1 h2 hws (by omega)
    have HR := Lib.hid hR
    have Hlen := Lib.hid hlen
    have Hsz := Lib.hid hsz
    generalize sumI (winB l n i) = S at *
    generalize winB l n i = V at *
    have hmx : (i : Int) - n + 1 ≤ 0 := by omega
    clear hR hlen hsz hwl e0
    go_enter Try.func49, Try.ntmps49
    go_wp2_with fail
    refine (Hsz.out _ _ _ _ W.heap.size Hlen.out HR.out).mono ?_
    rintro e w1 ⟨rfl, rfl⟩
    go_wp2
    go_ret
    exact ⟨rfl, rfl⟩

set_option maxRecDepth 100000 in
set_option maxHeartbeats 400000 in
theorem MovingSums_any (A : Option Addr) (c : Nat) (l : List Int) (n : Int) (w : World) (h : Rd encI 1 w w.heap.size A l) (hl : l.length ≤ 1048576) (hc : l.length ≤ c ∧ c ≤ maxLen) :
    Calls Try.prog 11 #[.slice A l.length c, .int .i64 n] w fun e w' => ∃ A' c', e = .returned (.tuple #[.slice A' (msL l n).length c', .bool (okMS l n)]) ∧ ((msL l n).length ≤ c' ∧ c' ≤ maxLen) ∧ Own encI 1 w' w.heap.size 3 (.slice A' (msL l n).length c') (msL l n) ∧ Below w.heap.size w w' := by
  have hb0 : Below w.heap.size w ((w.alloc (.cells #[.slice A l.length c] 22)).alloc (.cells #[.int .i64 n] 3)) := by (repeat (first | with_reducible exact Below.refl _ _ | with_reducible assumption | with_reducible refine Below.setCell ?_ (by simp <;> omega) _ | with_reducible refine Below.alloc ?_ (by first | omega | (simp <;> omega)) _ | with_reducible refine Below.drew ?_ | with_reducible refine below_drewN ?_ _))
  have HQ0 : Hid (Blk ((w.alloc (.cells #[.slice A l.length c] 22)).alloc (.cells #[.int .i64 n] 3)) w.heap.size 22 #[.slice A l.length c]) := (Blk.new w _ _).alloc _
  have HQ1 : Hid (Blk ((w.alloc (.cells #[.slice A l.length c] 22)).alloc (.cells #[.int .i64 n] 3)) (w.heap.size + 1) 3 #[.int .i64 n]) := by
    have hq := Blk.new (w.alloc (.cells #[.slice A l.length c] 22)) 3 #[.int .i64 n]
    simp at hq; exact hq
  have hr0 := (h.below hb0).more hb0.size
  have ASK : ∀ W B, Rd encI 1 W W.heap.size A l → W.heap.size = B → Calls Try.prog 46 #[.slice A l.length c] W fun e w' => e = .returned (.bool (goodS l)) ∧ Below W.heap.size W w' := fun W B hW _ => areSamples_any A c l W hW hl
  have hmf : ∀ (fn : Fn) (first cap : Array Value) (w : World), (Instr.makeFunc fn first cap).run Try.prog w = .ok (.func fn first cap) w := fun _ _ _ _ => rfl
  cases hg : goodS l with
  | false =>
    have hk : okMS l n = false := by simp [okMS, hg]
    unfold msL
    simp only [hk, Bool.false_eq_true, if_false, List.length_nil]
    clear hk
    go_enter Try.func11, Try.ntmps11
    go_wp2_with (go_at_call 46; refine (areSamples_any A c l _ hr0 hl).mono ?_; rintro e w1 ⟨rfl, hb1⟩; rw [hg])
    go_ret2
    exact ⟨none, 0, rfl, ⟨Nat.le_refl _, Nat.zero_le _⟩, Own.none_ _ _ _, hb0.trans (hb1.mono hb0.size)⟩
  | true =>
    cases hi : inB n 1 10 with
    | false =>
      have hk : okMS l n = false := by simp [okMS, hi]
      unfold msL
      simp only [hk, Bool.false_eq_true, if_false, List.length_nil]
      clear hk
      go_enter Try.func11, Try.ntmps11
      go_wp2_with fail
      refine (areSamples_any A c l _ hr0 hl).mono ?_
      rintro e w1 ⟨rfl, hb1⟩
      have z0 := (HQ0.out.after hb1).cell 0
      have z1 := (HQ1.out.after hb1).cell 0
      simp only [List.getElem?_toArray, List.getElem?_cons_zero] at z0 z1
      rw [hg]
      go_wp2_with (go_at_call 47; refine (in_any _ _ _ _).mono ?_; rintro e w' ⟨rfl, rfl⟩; rw [hi])
      go_ret2
      exact ⟨none, 0, rfl, ⟨Nat.le_refl _, Nat.zero_le _⟩, Own.none_ _ _ _, hb0.trans (hb1.mono hb0.size)⟩
    | true =>
      have hk : okMS l n = true := by simp [okMS, hi, hg]
      obtain ⟨⟨hl24, hsm⟩, hn1, hn2⟩ := okMS_iff.1 hk
      obtain ⟨m, rfl⟩ := Int.eq_ofNat_of_zero_le (show 0 ≤ n by omega)
      have hm : msL l m = (List.range l.length).map fun i => sumI (winB l m i) := by unfold msL; rw [if_pos hk]; rfl
      have hlen : (msL l m).length = l.length := by rw [hm]; simp
      rw [hk, hlen]
      have Hm := Lib.hid hm
      clear hk hm hlen
      go_enter Try.func11, Try.ntmps11
      go_wp2_with fail
      refine (areSamples_any A c l _ hr0 hl).mono ?_
      rintro e w1 ⟨rfl, hb1⟩
      have hB1 := hb0.trans (hb1.mono hb0.size)
      have HQ0' := Lib.hid (HQ0.out.after hb1)
      have HQ1' := Lib.hid (HQ1.out.after hb1)
      have z0 := HQ0'.out.cell 0
      have z1 := HQ1'.out.cell 0
      simp only [List.getElem?_toArray, List.getElem?_cons_zero] at z0 z1
      have hr1 := hr0.after hb1
      have HE := Lib.hid (each_any 49 #[.pointer (some ⟨w.heap.size, 0, none⟩), .pointer (some ⟨w.heap.size + 1, 0, none⟩)] (enters_of Try.func49 (by kernel_rfl) rfl) A l.length c (fun i => sumI (winB l m i))
        (fun _ W => Below w1.heap.size w1 W) none w1 hl (by simp) (Below.refl _ _) (fun _ W W' hW hb => hW.trans hb)
        (fun i W hi _ hW => (MovingSums1_any A c l m i w.heap.size (w.heap.size + 1) W (HQ0'.out.after hW) (HQ1'.out.after hW) (hr1.after hW) hsm hl24 hc (by omega) (by omega) hi).mono fun e w' ⟨he, hw⟩ => ⟨he, hw ▸ hW, hw ▸ only_refl _ _⟩))
      rw [hg]
      clear hb0
      go_wp2_with (go_at_call 47; refine (in_any _ _ _ _).mono ?_; rintro e w' ⟨rfl, rfl⟩; rw [hi])
      refine HE.out.mono ?_
      rintro e w2 ⟨v, rfl, hown, hb2, _⟩
      obtain ⟨A', c', rfl, hcc, hrd⟩ := Own.form encI_len hown
      have hlm : (List.map (fun i => sumI (winB l m i)) (List.range l.length)).length = l.length := by simp
      rw [hlm] at hown hcc ⊢
      rw [← Hm.out] at hown
      have Hown := Lib.hid (hown.mono (show w.heap.size ≤ w1.heap.size from hB1.size))
      clear hown hrd z0 z1
      go_wp2
      go_ret2
      exact ⟨_, _, rfl, hcc, Hown.out, hB1.trans (hb2.mono hB1.size)⟩

end Go.Proofs.Ytabnnkallgcmgaa
