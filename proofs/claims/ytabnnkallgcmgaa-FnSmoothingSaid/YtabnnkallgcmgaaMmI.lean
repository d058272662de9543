/-
  Contracts of MovingMedians, of the program. (Printed by gen_F4.py.)
-/
import Derived.Test.YtabnnkallgcmgaaEvM
import Derived.Test.YtabnnkallgcmgaaCopF
namespace Go.Proofs.Ytabnnkallgcmgaa
set_option linter.unusedVariables false
open Go.RowKit

/-- The samples near a place. -/
def nearW (l : List Int) (m i : Nat) : List Int := (l.take (i + m + 1)).drop (i - m)
theorem nearW_len {l : List Int} {m i : Nat} (hi : i < l.length) : (nearW l m i).length = min (i + m + 1) l.length - (i - m) := by simp [nearW]
def mmF (l : List Int) (n : Int) (i : Nat) : Int := midL (sortL idZ (nearW l n.toNat i))
theorem rd_near {W : World} {B b off : Nat} {l : List Int} (h : Rd encI 1 W B (some ⟨b, off, none⟩) l) (m i : Nat) : Rd encI 1 W B (some ⟨b, off + (i - m), none⟩) (nearW l m i) := by
  have := (h.take (i + m + 1)).drop (i - m)
  rwa [Nat.mul_one] at this
set_option maxRecDepth 100000 in
set_option maxHeartbeats 1000000 in
theorem MovingMedians1_any (A : Option Addr) (c : Nat) (l : List Int) (n : Int) (i : Nat) (q0 q1 : Nat) (W : World) (h0 : Blk W q0 22 #[.slice A l.length c]) (h1 : Blk W q1 3 #[.int .i64 n]) (h : Rd encI 1 W W.heap.size A l) (hs : Sm l) (hl : l.length ≤ 24) (hc : l.length ≤ c ∧ c ≤ maxLen) (hn1 : 0 ≤ n) (hn2 : n ≤ 3) (hi : i < l.length) :
    Calls Try.prog 60 #[.int .i64 i, .pointer (some ⟨q0, 0, none⟩), .pointer (some ⟨q1, 0, none⟩)] W fun e w' => e = .returned (.int .i64 (mmF l n i)) ∧ Below W.heap.size W w' := by
  have c0 := h0.cell 0
  have c1 := h1.cell 0
  simp only [List.getElem?_toArray, List.getElem?_cons_zero] at c0 c1
  obtain ⟨b, off, rfl, hb, cc⟩ := cellsI h hi
  clear cc
  obtain ⟨hc1, hc2⟩ := hc
  unfold maxLen at hc2
  obtain ⟨m, rfl⟩ := Int.eq_ofNat_of_zero_le hn1
  have hf : mmF l m i = midL (sortL idZ (nearW l m i)) := rfl
  rw [hf]
  have hlen := nearW_len (m := m) hi
  have hR := rd_near h m i
  have hV0 : 0 < (nearW l m i).length := by omega
  have hV9 : (nearW l m i).length ≤ 24 := by omega
  generalize nearW l m i = V at *
  clear hf
  have e1 : i - m = (max 0 ((i : Int) - m)).toNat := by omega
  have e2 : V.length = (min ((i : Int) + m + 1) (l.length : Int)).toNat - (max 0 ((i : Int) - m)).toNat := by omega
  rw [e1] at hR
  have HR := Lib.hid hR
  have Hlen := Lib.hid e2
  clear hR hlen e1 e2
  go_enter Try.func60, Try.ntmps60
  go_wp2_with fail
  refine (copyOfI_any b _ _ _ W.heap.size V W Hlen.out HR.out (by omega) (Nat.le_refl _)).mono ?_
  rintro e w1 ⟨v, rfl, hown1, hb1⟩
  obtain ⟨A3, c3, rfl, hcc3, _⟩ := Own.form encI_len hown1
  have HB1 := Lib.hid hb1
  have Hc1 := Lib.hid hown1
  have hs1 := hb1.size
  clear hown1 hb1
  go_wp2_with fail
  refine (sortI_any A3 c3 W.heap.size V w1 Hc1.out hV0 (by omega)).mono ?_
  rintro e w2 ⟨rfl, hown2, hg2⟩
  have hlt2 := Own.lt Hc1.out
  have HB2 := Lib.hid (HB1.out.grown hg2 HB1.out.size (fun q hq => by have := (hlt2 q hq).1; omega))
  have hSl := sortL_len idZ V
  obtain ⟨S, hS⟩ : ∃ S, sortL idZ V = S := ⟨_, rfl⟩
  rw [hS] at hSl hown2
  have hrs := Own.rd' encI_len hown2
  have hj : (((V.length : Int) - 1) / 2).toNat < S.length := by omega
  obtain ⟨b4, off4, hA4, hb4, x0⟩ := cellsI hrs hj
  have hmid : midL (sortL idZ V) = S[(((V.length : Int) - 1) / 2).toNat] := by
    rw [hS]
    unfold midL
    rw [List.getD_eq_getElem?_getD, show (S.length - 1) / 2 = (((V.length : Int) - 1) / 2).toNat by omega, List.getElem?_eq_getElem hj]; rfl
  generalize S[(((V.length : Int) - 1) / 2).toNat] = y at *
  have Hmid := Lib.hid hmid
  subst hA4
  have hj0 : (0 : Int) ≤ ((V.length : Int) - 1) / 2 := by omega
  have hj1 : ((V.length : Int) - 1) / 2 < (V.length : Int) := by omega
  have hw1 : IntKind.i64.wrap ((V.length : Int) - 1) = (V.length : Int) - 1 := IntWalk.i64_in _ (by omega)
  have ht1 : ((V.length : Int) - 1).tdiv 2 = ((V.length : Int) - 1) / 2 := Int.tdiv_eq_ediv_of_nonneg (by omega)
  have hw2 : IntKind.i64.wrap (((V.length : Int) - 1) / 2) = ((V.length : Int) - 1) / 2 := IntWalk.i64_in _ (by omega)
  have x1 : w2.cell? ⟨b4, off4 + (V.length - 1) / 2, none⟩ = some (.int .i64 y) := by
    rw [show (V.length - 1) / 2 = (((V.length : Int) - 1) / 2).toNat by omega]; exact x0
  clear hrs hown2 hlt2 hg2 hmid hS
  go_wp2
  go_ret
  exact ⟨ret_int Hmid.out.symm, HB2.out⟩

set_option maxRecDepth 100000 in
set_option maxHeartbeats 400000 in
theorem MovingMedians_any (A : Option Addr) (c : Nat) (l : List Int) (n : Int) (w : World) (h : Rd encI 1 w w.heap.size A l) (hl : l.length ≤ 1048576) (hc : l.length ≤ c ∧ c ≤ maxLen) :
    Calls Try.prog 20 #[.slice A l.length c, .int .i64 n] w fun e w' => ∃ A' c', e = .returned (.tuple #[.slice A' (evL 0 3 mmF l n).length c', .bool (okA 0 3 l n)]) ∧ ((evL 0 3 mmF l n).length ≤ c' ∧ c' ≤ maxLen) ∧ Own encI 1 w' w.heap.size 3 (.slice A' (evL 0 3 mmF l n).length c') (evL 0 3 mmF l n) ∧ Below w.heap.size w w' := by
  have hb0 : Below w.heap.size w ((w.alloc (.cells #[.slice A l.length c] 22)).alloc (.cells #[.int .i64 n] 3)) := by (repeat (first | with_reducible exact Below.refl _ _ | with_reducible assumption | with_reducible refine Below.setCell ?_ (by simp <;> omega) _ | with_reducible refine Below.alloc ?_ (by first | omega | (simp <;> omega)) _ | with_reducible refine Below.drew ?_ | with_reducible refine below_drewN ?_ _))
  have HQ0 : Hid (Blk ((w.alloc (.cells #[.slice A l.length c] 22)).alloc (.cells #[.int .i64 n] 3)) w.heap.size 22 #[.slice A l.length c]) := (Blk.new w _ _).alloc _
  have HQ1 : Hid (Blk ((w.alloc (.cells #[.slice A l.length c] 22)).alloc (.cells #[.int .i64 n] 3)) (w.heap.size + 1) 3 #[.int .i64 n]) := by
    have hq := Blk.new (w.alloc (.cells #[.slice A l.length c] 22)) 3 #[.int .i64 n]
    simp at hq; exact hq
  have hr0 := (h.below hb0).more hb0.size
  have hmf : ∀ (fn : Fn) (first cap : Array Value) (w : World), (Instr.makeFunc fn first cap).run Try.prog w = .ok (.func fn first cap) w := fun _ _ _ _ => rfl
  cases hg : goodS l with
  | false =>
    have hk : okA 0 3 l n = false := by simp [okA, hg]
    rw [evL_no hk, hk]
    simp only [List.length_nil]
    clear hk
    go_enter Try.func20, Try.ntmps20
    go_wp2_with (go_at_call 46; refine (areSamples_any A c l _ hr0 hl).mono ?_; rintro e w1 ⟨rfl, hb1⟩; rw [hg])
    go_ret2
    exact ⟨none, 0, rfl, ⟨Nat.le_refl _, Nat.zero_le _⟩, Own.none_ _ _ _, hb0.trans (hb1.mono hb0.size)⟩
  | true =>
    cases hi : inB n 0 3 with
    | false =>
      have hk : okA 0 3 l n = false := by simp [okA, hi]
      rw [evL_no hk, hk]
      simp only [List.length_nil]
      clear hk
      go_enter Try.func20, Try.ntmps20
      go_wp2_with fail
      refine (areSamples_any A c l _ hr0 hl).mono ?_
      rintro e w1 ⟨rfl, hb1⟩
      have z0 := (HQ0.out.after hb1).cell 0
      have z1 := (HQ1.out.after hb1).cell 0
      simp only [List.getElem?_toArray, List.getElem?_cons_zero] at z0 z1
      rw [hg]
      go_wp2_with (go_at_call 47; refine (in_any _ _ _ _).mono ?_; rintro e w' ⟨rfl, rfl⟩; rw [hi])
      go_ret2
      exact ⟨none, 0, rfl, ⟨Nat.le_refl _, Nat.zero_le _⟩, Own.none_ _ _ _, hb0.trans (hb1.mono hb0.size)⟩
    | true =>
      have hk : okA 0 3 l n = true := by simp [okA, hi, hg]
      obtain ⟨⟨hl24, hsm⟩, hn1, hn2⟩ := okA_iff.1 hk
      obtain ⟨M, hM⟩ : ∃ M, evL 0 3 mmF l n = M := ⟨_, rfl⟩
      have hm : M = (List.range l.length).map (mmF l n) := by rw [← hM, evL_yes hk]
      have hlen : M.length = l.length := by rw [hm]; simp
      rw [hM, hk, hlen]
      have Hm := Lib.hid hm
      have Hlen := Lib.hid hlen
      clear hk hm hlen hM
      go_enter Try.func20, Try.ntmps20
      go_wp2_with fail
      refine (areSamples_any A c l _ hr0 hl).mono ?_
      rintro e w1 ⟨rfl, hb1⟩
      have hB1 := hb0.trans (hb1.mono hb0.size)
      have HQ0' := Lib.hid (HQ0.out.after hb1)
      have HQ1' := Lib.hid (HQ1.out.after hb1)
      have z0 := HQ0'.out.cell 0
      have z1 := HQ1'.out.cell 0
      simp only [List.getElem?_toArray, List.getElem?_cons_zero] at z0 z1
      have hr1 := hr0.after hb1
      have HE := Lib.hid (each_any 60 #[.pointer (some ⟨w.heap.size, 0, none⟩), .pointer (some ⟨w.heap.size + 1, 0, none⟩)] (enters_of Try.func60 (by kernel_rfl) rfl) A l.length c (mmF l n)
        (fun _ W => Below w1.heap.size w1 W) none w1 hl (by simp) (Below.refl _ _) (fun _ W W' hW hb => hW.trans hb)
        (fun i W hi _ hW => (MovingMedians1_any A c l n i w.heap.size (w.heap.size + 1) W (HQ0'.out.after hW) (HQ1'.out.after hW) (hr1.after hW) hsm hl24 hc hn1 hn2 hi).mono fun e w' ⟨he, hw⟩ => ⟨he, hW.trans (hw.mono hW.size), grownBy_of_below hw⟩))
      rw [hg]
      clear hb0
      go_wp2_with (go_at_call 47; refine (in_any _ _ _ _).mono ?_; rintro e w' ⟨rfl, rfl⟩; rw [hi])
      refine HE.out.mono ?_
      rintro e w2 ⟨v, rfl, hown, hb2, _⟩
      rw [← Hm.out] at hown
      obtain ⟨A', c', rfl, hcc, hrd⟩ := Own.form encI_len hown
      rw [Hlen.out] at hown hcc ⊢
      have Hown := Lib.hid (hown.mono (show w.heap.size ≤ w1.heap.size from hB1.size))
      clear hown hrd z0 z1
      go_wp2
      go_ret2
      exact ⟨_, _, rfl, hcc, Hown.out, hB1.trans (hb2.mono hB1.size)⟩

end Go.Proofs.Ytabnnkallgcmgaa
