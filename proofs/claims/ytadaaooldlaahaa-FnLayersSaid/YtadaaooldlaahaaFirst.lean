/-
  Contracts of the first times, and of the exported functions over models.
-/
import Derived.Test.YtadaaooldlaahaaVia
namespace Go.Proofs.Ytadaaooldlaahaa
set_option linter.unusedVariables false
open Go.RowKit

theorem prod_bd {a b : Int} (h1 : 0 ≤ a) (h2 : a ≤ 22506250000) (h3 : 0 < b) (h4 : b ≤ 312500000) : 0 ≤ a * b ∧ a * b ≤ 7033203125000000000 := by
  refine ⟨Int.mul_nonneg h1 (by omega), ?_⟩
  have h5 : a * b ≤ a * 312500000 := Int.mul_le_mul_of_nonneg_left h4 h1
  omega

def bsI (l : List Earth) (dist : Int) (k : Nat) : Int := if k = 0 then -1 else (bst l dist (k - 1) : Int)
def bsN (l : List Earth) (dist : Int) (k : Nat) : Int := if k = 0 then 0 else viaN l (bst l dist (k - 1)) dist
def bsD (l : List Earth) (dist : Int) (k : Nat) : Int := if k = 0 then 1 else viaD l (bst l dist (k - 1)) dist

set_option maxHeartbeats 400000 in
theorem firstVia_any (A : Option Addr) (n c : Nat) (l : List Earth) (dist : Int) (w : World) (hn : l.length = n) (h : Rd encE 2 w w.heap.size A l) (ho : Oks l) (h1 : 1 ≤ l.length) (h5 : l.length ≤ 5) (hc : l.length ≤ c ∧ c ≤ maxLen) (hd : 0 ≤ dist) (hd2 : dist ≤ 2001) :
    Calls Try.prog 60 #[.slice A n c, .int .i64 dist] w fun e w' => e = .returned (.tuple #[.int .i64 (bst l dist (l.length - 1)), .int .i64 (fstN l dist), .int .i64 (fstD l dist)]) ∧ Below w.heap.size w w' := by
  subst hn
  go_enter Try.func60, Try.ntmps60
  go_wp2
  go_loopw [7, 8, 9, 15] (fun b p q i wr => ∃ k : Nat, k ≤ l.length ∧ i = .int .i64 k ∧ b = .int .i64 (bsI l dist k) ∧ p = .int .i64 (bsN l dist k) ∧ q = .int .i64 (bsD l dist k) ∧ Below w.heap.size w wr)
    (fun _ _ _ i _ => l.length - (intOf i).toNat)
  case atStart => exact ⟨0, Nat.zero_le _, rfl, rfl, rfl, rfl, Below.refl _ _⟩
  case round =>
    obtain ⟨k, hk, rfl, rfl, rfl, rfl, hbl⟩ := hrel
    by_cases hlt : k < l.length
    · have hvia := timeVia_any A c l k dist wr ((h.below hbl).more hbl.size) ho h5 hc hlt hd hd2
      have Hvia := Lib.hid hvia
      obtain ⟨_, _, _, _, v1, v2, v3, v4, _⟩ := via_bd ho h5 k hlt dist hd hd2
      clear hvia
      rcases Nat.eq_zero_or_pos k with h0 | h0
      · subst h0
        have e1 : bsI l dist 0 = -1 := rfl
        have e2 : bsN l dist 0 = 0 := rfl
        have e3 : bsD l dist 0 = 1 := rfl
        have f1 : bsI l dist 1 = 0 := rfl
        have f2 : bsN l dist 1 = viaN l 0 dist := rfl
        have f3 : bsD l dist 1 = viaD l 0 dist := rfl
        rw [e1, e2, e3]
        have F1 := Lib.hid f1
        have F2 := Lib.hid f2
        have F3 := Lib.hid f3
        clear e1 e2 e3 f1 f2 f3
        generalize viaN l 0 dist = a at *
        generalize viaD l 0 dist = b at *
        go_wp2_with fail
        refine Hvia.out.mono ?_
        rintro e w1 ⟨rfl, hb1⟩
        go_wp2
        go_roundw
        case rel =>
          refine ⟨1, by omega, by go_num, by rw [F1.out], by rw [F2.out], by rw [F3.out], hbl.trans (hb1.mono hbl.size)⟩
        case measure => simp [intOf]; omega
      · obtain ⟨j, rfl⟩ : ∃ j, k = j + 1 := ⟨k - 1, by omega⟩
        have hb := bst_le l dist j
        have e1 : bsI l dist (j + 1) = (bst l dist j : Int) := rfl
        have e2 : bsN l dist (j + 1) = viaN l (bst l dist j) dist := rfl
        have e3 : bsD l dist (j + 1) = viaD l (bst l dist j) dist := rfl
        have f1 : bsI l dist (j + 1 + 1) = ((if faster l dist (j + 1) (bst l dist j) then j + 1 else bst l dist j : Nat) : Int) := rfl
        have f2 : bsN l dist (j + 1 + 1) = viaN l (if faster l dist (j + 1) (bst l dist j) then j + 1 else bst l dist j) dist := rfl
        have f3 : bsD l dist (j + 1 + 1) = viaD l (if faster l dist (j + 1) (bst l dist j) then j + 1 else bst l dist j) dist := rfl
        obtain ⟨_, _, _, _, u1, u2, u3, u4, _⟩ := via_bd ho h5 (bst l dist j) (by omega) dist hd hd2
        rw [e1, e2, e3]
        cases hf : faster l dist (j + 1) (bst l dist j) with
        | true =>
          rw [hf] at f1 f2 f3
          simp only [if_true] at f1 f2 f3
          simp only [faster, decide_eq_true_eq] at hf
          have F1 := Lib.hid f1
          have F2 := Lib.hid f2
          have F3 := Lib.hid f3
          clear e1 e2 e3 f1 f2 f3
          generalize viaN l (bst l dist j) dist = p at *
          generalize viaD l (bst l dist j) dist = q at *
          generalize bst l dist j = bb at *
          generalize viaN l (j + 1) dist = a at *
          generalize viaD l (j + 1) dist = b at *
          obtain ⟨m1, m2⟩ := prod_bd v1 v2 u3 u4
          obtain ⟨m3, m4⟩ := prod_bd u1 u2 v3 v4
          have hneg : ¬ ((bb : Int) < 0) := by omega
          go_wp2_with fail
          refine Hvia.out.mono ?_
          rintro e w1 ⟨rfl, hb1⟩
          go_wp2
          go_roundw
          case rel =>
            refine ⟨j + 1 + 1, by omega, by go_num, by rw [F1.out]; go_num, by rw [F2.out], by rw [F3.out], hbl.trans (hb1.mono hbl.size)⟩
          case measure => simp [intOf]; omega
        | false =>
          rw [hf] at f1 f2 f3
          simp only [Bool.false_eq_true, if_false] at f1 f2 f3
          simp only [faster, decide_eq_false_iff_not] at hf
          have F1 := Lib.hid f1
          have F2 := Lib.hid f2
          have F3 := Lib.hid f3
          clear e1 e2 e3 f1 f2 f3
          generalize viaN l (bst l dist j) dist = p at *
          generalize viaD l (bst l dist j) dist = q at *
          generalize bst l dist j = bb at *
          generalize viaN l (j + 1) dist = a at *
          generalize viaD l (j + 1) dist = b at *
          obtain ⟨m1, m2⟩ := prod_bd v1 v2 u3 u4
          obtain ⟨m3, m4⟩ := prod_bd u1 u2 v3 v4
          have hneg : ¬ ((bb : Int) < 0) := by omega
          go_wp2_with fail
          refine Hvia.out.mono ?_
          rintro e w1 ⟨rfl, hb1⟩
          go_wp2
          go_roundw
          case rel =>
            refine ⟨j + 1 + 1, by omega, by go_num, by rw [F1.out], by rw [F2.out], by rw [F3.out], hbl.trans (hb1.mono hbl.size)⟩
          case measure => simp [intOf]; omega
    · obtain rfl : k = l.length := by omega
      have g1 : bsI l dist l.length = (bst l dist (l.length - 1) : Int) := by unfold bsI; rw [if_neg (by omega)]
      have g2 : bsN l dist l.length = fstN l dist := by unfold bsN; rw [if_neg (by omega)]; rfl
      have g3 : bsD l dist l.length = fstD l dist := by unfold bsD; rw [if_neg (by omega)]; rfl
      rw [g1, g2, g3]
      clear g1 g2 g3
      go_wp2
      go_ret3
      exact ⟨rfl, hbl⟩

set_option maxHeartbeats 400000 in
theorem l8First_any (A : Option Addr) (c m : Nat) (l : List Earth) (dist : Int) (w : World) (h : Rd encE 2 w w.heap.size A l) (ho : Oks l) (h5 : l.length ≤ 5) (hc : l.length ≤ c ∧ c ≤ maxLen) (hm1 : 1 ≤ m) (hm : m ≤ l.length) (hd : 0 ≤ dist) (hd2 : dist ≤ 2001) :
    Calls Try.prog 59 #[.slice A l.length c, .int .i64 m, .int .i64 dist] w fun e w' => e = .returned (.int .i64 (bst l dist (m - 1))) ∧ Below w.heap.size w w' := by
  go_enter Try.func59, Try.ntmps59
  go_wp2
  go_loopw [7, 8] (fun b i wr => ∃ k : Nat, k < m ∧ i = .int .i64 (k + 1 : Nat) ∧ b = .int .i64 (bst l dist k) ∧ Below w.heap.size w wr)
    (fun _ i _ => m - (intOf i).toNat)
  case atStart => exact ⟨0, by omega, rfl, rfl, Below.refl _ _⟩
  case round =>
    obtain ⟨k, hk, rfl, rfl, hbl⟩ := hrel
    have hb := bst_le l dist k
    by_cases hlt : k + 1 < m
    · have hvia := l8Via_any A c l (k + 1) dist wr ((h.below hbl).more hbl.size) ho h5 hc (by omega) hd hd2
      have hvib := fun W hW => l8Via_any A c l (bst l dist k) dist W hW ho h5 hc (by omega) hd hd2
      obtain ⟨_, _, _, _, v1, v2, v3, v4, _⟩ := via_bd ho h5 (k + 1) (by omega) dist hd hd2
      obtain ⟨_, _, _, _, u1, u2, u3, u4, _⟩ := via_bd ho h5 (bst l dist k) (by omega) dist hd hd2
      have f1 : bst l dist (k + 1) = if faster l dist (k + 1) (bst l dist k) then k + 1 else bst l dist k := rfl
      have hr1 := (h.below hbl).more hbl.size
      have Hvia := Lib.hid hvia
      have Hvib := Lib.hid hvib
      clear hvia hvib
      have hcast : ((k + 1 : Nat) : Int) = (k : Int) + 1 := by omega
      rw [hcast] at Hvia ⊢
      clear hcast
      cases hf : faster l dist (k + 1) (bst l dist k) with
      | true =>
        rw [hf] at f1
        simp only [if_true] at f1
        simp only [faster, decide_eq_true_eq] at hf
        have F1 := Lib.hid f1
        clear f1
        generalize viaN l (bst l dist k) dist = p at *
        generalize viaD l (bst l dist k) dist = q at *
        generalize bst l dist k = bb at *
        generalize viaN l (k + 1) dist = a at *
        generalize viaD l (k + 1) dist = b at *
        obtain ⟨m1, m2⟩ := prod_bd v1 v2 u3 u4
        obtain ⟨m3, m4⟩ := prod_bd u1 u2 v3 v4
        go_wp2_with fail
        refine Hvia.out.mono ?_
        rintro e w1 ⟨rfl, hb1⟩
        go_wp2_with fail
        refine (Hvib.out _ (hr1.after hb1)).mono ?_
        rintro e w2 ⟨rfl, hb2⟩
        go_wp2
        go_roundw
        case rel =>
          refine ⟨k + 1, by omega, by go_num, by rw [F1.out]; go_num, (hbl.trans (hb1.mono hbl.size)).trans (hb2.mono (Nat.le_trans hbl.size hb1.size))⟩
        case measure => simp [intOf]; omega
      | false =>
        rw [hf] at f1
        simp only [Bool.false_eq_true, if_false] at f1
        simp only [faster, decide_eq_false_iff_not] at hf
        have F1 := Lib.hid f1
        clear f1
        generalize viaN l (bst l dist k) dist = p at *
        generalize viaD l (bst l dist k) dist = q at *
        generalize bst l dist k = bb at *
        generalize viaN l (k + 1) dist = a at *
        generalize viaD l (k + 1) dist = b at *
        obtain ⟨m1, m2⟩ := prod_bd v1 v2 u3 u4
        obtain ⟨m3, m4⟩ := prod_bd u1 u2 v3 v4
        go_wp2_with fail
        refine Hvia.out.mono ?_
        rintro e w1 ⟨rfl, hb1⟩
        go_wp2_with fail
        refine (Hvib.out _ (hr1.after hb1)).mono ?_
        rintro e w2 ⟨rfl, hb2⟩
        go_wp2
        go_roundw
        case rel =>
          refine ⟨k + 1, by omega, by go_num, by rw [F1.out], (hbl.trans (hb1.mono hbl.size)).trans (hb2.mono (Nat.le_trans hbl.size hb1.size))⟩
        case measure => simp [intOf]; omega
    · obtain rfl : k = m - 1 := by omega
      go_wp2
      go_ret
      exact ⟨rfl, hbl⟩

end Go.Proofs.Ytadaaooldlaahaa
