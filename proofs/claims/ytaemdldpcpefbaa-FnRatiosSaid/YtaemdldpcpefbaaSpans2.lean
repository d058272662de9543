/-
  The walks of the spans that a trigger is on.
-/
import Derived.Test.YtaemdldpcpefbaaSpans
namespace Go.Proofs.Ytaemdldpcpefbaa
set_option linter.unusedVariables false
open Go.RowKit

set_option maxRecDepth 100000 in
set_option maxHeartbeats 1000000 in
theorem spans_any (A : Option Addr) (c : Nat) (l : List Int) (s : Setting) (w : World) (h : Rd encI 1 w w.heap.size A l) (hs : Sm l) (hl : l.length ≤ 24) (hc : l.length ≤ c ∧ c ≤ maxLen) (hg : goodG s = true) :
    Calls Try.prog 59 #[.agg #[.int .i64 s.short, .int .i64 s.long, .int .i64 s.on, .int .i64 s.off], .slice A l.length c] w fun e w' => ∃ v, e = .returned v ∧ Own enc2 2 w' w.heap.size 54 v (spans l s) ∧ Below w.heap.size w w' := by
  obtain ⟨g1, g2, g3, g4, g5, g6, g7, g8⟩ := goodG_iff.1 hg
  obtain ⟨i0, hi, hz0, hz1, hz2⟩ := info_parts info2
  obtain ⟨ln, hln⟩ := Int.eq_ofNat_of_zero_le (show 0 ≤ s.long by omega)
  obtain ⟨sho, lon, on, of⟩ := s
  simp only at *
  subst hln
  have hl1 : 2 ≤ ln := by omega
  obtain ⟨S, hS⟩ : ∃ S, spTo l ⟨sho, (ln : Int), on, of⟩ = S := ⟨_, rfl⟩
  have hstep : ∀ k, S (k + 1) = spStep l ⟨sho, (ln : Int), on, of⟩ (S k) (ln - 1 + k) := by intro k; rw [← hS]; rfl
  have hinv := spTo_inv l ⟨sho, (ln : Int), on, of⟩
  rw [hS] at hinv
  have hfin : spans l ⟨sho, (ln : Int), on, of⟩ = (S (l.length + 1 - ln)).1 := by rw [← hS]; rfl
  have h00 : S 0 = ([], false) := by rw [← hS]; rfl
  rw [hfin]
  have hrat := fun (p : Nat) (W : World) hW => ratio_any A c l ⟨sho, (ln : Int), on, of⟩ p W hW hs hl hc hg
  have Hrat := Lib.hid hrat
  have Hstep := Lib.hid hstep
  have Hinv := Lib.hid hinv
  have H00 := Lib.hid h00
  clear hrat hstep hinv h00 hS hfin
  go_enter Try.func59, Try.ntmps59
  go_wp2
  go_loopw [5, 6, 7] (fun v o i wr => ∃ k : Nat, k ≤ l.length + 1 - ln ∧ i = .int .i64 ((ln - 1 + k : Nat) : Int) ∧ o = .bool (S k).2 ∧ Hid (Own enc2 2 wr (w.heap.size + 1) 54 v (S k).1) ∧ Hid (Blk wr w.heap.size 25 #[.int .i64 sho, .int .i64 (ln : Int), .int .i64 on, .int .i64 of]) ∧ Below w.heap.size w wr ∧ w.heap.size + 1 ≤ wr.heap.size)
    (fun _ _ i _ => l.length - (intOf i).toNat)
  case atStart =>
    refine ⟨0, Nat.zero_le _, by rw [show ((ln - 1 + 0 : Nat) : Int) = (ln : Int) - 1 by omega], by rw [H00.out], ?_, Blk.alloc (Blk.new _ _ _) _, ?_, ?_⟩
    · rw [H00.out]
      have := Own.empty (enc := enc2) (k := 2) (w.alloc (.cells #[.int .i64 sho, .int .i64 (ln : Int), .int .i64 on, .int .i64 of] 25)) (w.heap.size + 1) 54 (by simp)
      simp at this
      exact this
    · (repeat (first | with_reducible exact Below.refl _ _ | with_reducible assumption | with_reducible refine Below.setCell ?_ (by simp <;> omega) _ | with_reducible refine Below.alloc ?_ (by first | omega | (simp <;> omega)) _ | with_reducible refine Below.drew ?_ | with_reducible refine below_drewN ?_ _))
    · simp
  case round =>
    obtain ⟨k, hk, rfl, rfl, hown, hB, hbl, hsz⟩ := hrel
    have hst := Hstep.out k
    have hiv := Hinv.out k
    obtain ⟨p, hp⟩ : ∃ p, ln - 1 + k = p := ⟨_, rfl⟩
    have hp1 : ((ln - 1 + (k + 1) : Nat) : Int) = (p : Int) + 1 := by omega
    rw [hp] at hst ⊢
    by_cases hlt : p < l.length
    · have hrat := Hrat.out p wr ((h.below hbl).more hbl.size) (by show (ln : Int) ≤ _; omega) hlt
      obtain ⟨f1, f2, f3, f4, _⟩ := rat_bd hs hg p (by simp only; omega) hlt
      obtain ⟨r1, r2⟩ := goes_red hs hg p (by simp only; omega) hlt
      simp only at r1 r2
      generalize ratN l ⟨sho, (ln : Int), on, of⟩ p = a at *
      generalize ratD l ⟨sho, (ln : Int), on, of⟩ p = b at *
      have m1 : 0 ≤ on * b ∧ on * b ≤ 10000000000 := by
        refine ⟨Int.mul_nonneg (by omega) (by omega), ?_⟩
        have h9 : on * b ≤ 1000 * b := Int.mul_le_mul_of_nonneg_right g6 (by omega)
        omega
      have m2 : 0 ≤ of * b ∧ of * b ≤ 10000000000 := by
        refine ⟨Int.mul_nonneg (by omega) (by omega), ?_⟩
        have h9 : of * b ≤ 1000 * b := Int.mul_le_mul_of_nonneg_right (by omega) (by omega)
        omega
      obtain ⟨m1a, m1b⟩ := m1
      obtain ⟨m2a, m2b⟩ := m2
      have Hratp := Lib.hid hrat
      have hkk : k + 1 ≤ l.length + 1 - ln := by omega
      have Hp1 := Lib.hid hp1
      have Hp := Lib.hid hp
      clear hrat hp hp1
      have d0 := hB.out.cell 0
      have d1 := hB.out.cell 1
      have d2 := hB.out.cell 2
      have d3 := hB.out.cell 3
      simp only [List.getElem?_toArray, List.getElem?_cons_zero, List.getElem?_cons_succ] at d0 d1 d2 d3
      have hSk : ∃ out o, S k = (out, o) := ⟨_, _, rfl⟩
      obtain ⟨out, o, hSk⟩ := hSk
      rw [hSk] at hst hiv
      have hown' : Own enc2 2 wr (w.heap.size + 1) 54 u5 out := by have := hown.out; rw [hSk] at this; exact this
      have HSk := Lib.hid hSk
      have Hown' := Lib.hid hown'
      rw [show (S k).2 = o by rw [hSk]]
      clear hSk hown' hown
      simp only at hiv
      cases o with
      | false =>
        cases hgo : goesOn l ⟨sho, (ln : Int), on, of⟩ p with
        | true =>
          have hst' : S (k + 1) = (out ++ [((p : Int), (l.length : Int))], true) := by rw [hst]; simp [spStep, hgo]
          have hcond : on * b ≤ 10 * a := r1.2 hgo
          have Hst := Lib.hid hst'
          clear hst hst' hgo r1 r2
          go_wp2_with fail
          refine Hratp.out.mono ?_
          rintro e w1 ⟨rfl, hb1⟩
          have hB1 := hB.out.after hb1
          have e2 := hB1.cell 2
          simp only [List.getElem?_toArray, List.getElem?_cons_zero, List.getElem?_cons_succ] at e2
          have HB1 := Lib.hid hB1
          have hs1 := hb1.size
          clear hB1 d0 d1 d2 d3
          go_wp2_with (at_builtin; refine wpList_app1 rfl _ _ 45 rfl (w.heap.size + 1) 54 i0 _ 2 16 Try.underlying45 hi hz0 hz1 hz2 rfl (by omega) (by omega) enc2 enc2_len enc2_one u5 out ((p : Int), (l.length : Int)) w1 _ rfl _ rfl (Hown'.out.keep hb1) rfl (by omega) (by omega) ?_; intro v' w2 hown2 hb2 _)
          have Hown2 := Lib.hid hown2
          have hB2 := Lib.hid (HB1.out.below hb2 (by omega))
          have hbl2 := (hbl.trans (hb1.mono hbl.size)).trans (hb2.mono (by omega))
          have hs2 := hb2.size
          clear hown2 hb2
          go_wp2
          go_roundw
          case rel => exact ⟨k + 1, hkk, by rw [Hp1.out], by rw [Hst.out], by rw [Hst.out]; exact Hown2.out, hB2.out, hbl2, by omega⟩
          case measure => simp [intOf]; omega
        | false =>
          have hst' : S (k + 1) = (out, false) := by rw [hst]; simp [spStep, hgo]
          have hcond : ¬ on * b ≤ 10 * a := fun h9 => by rw [r1.1 h9] at hgo; cases hgo
          have Hst := Lib.hid hst'
          clear hst hst' hgo r1 r2
          go_wp2_with fail
          refine Hratp.out.mono ?_
          rintro e w1 ⟨rfl, hb1⟩
          have hB1 := hB.out.after hb1
          have e2 := hB1.cell 2
          simp only [List.getElem?_toArray, List.getElem?_cons_zero, List.getElem?_cons_succ] at e2
          have HB1 := Lib.hid hB1
          have hs1 := hb1.size
          clear hB1 d0 d1 d2 d3
          go_wp2
          go_roundw
          case rel => exact ⟨k + 1, hkk, by rw [Hp1.out], by rw [Hst.out], by rw [Hst.out]; exact Hown'.out.keep hb1, HB1.out, hbl.trans (hb1.mono hbl.size), by omega⟩
          case measure => simp [intOf]; omega
      | true =>
        cases hgo : goesOff l ⟨sho, (ln : Int), on, of⟩ p with
        | false =>
          have hst' : S (k + 1) = (out, true) := by rw [hst]; simp [spStep, hgo]
          have hcond : ¬ 10 * a ≤ of * b := fun h9 => by rw [r2.1 h9] at hgo; cases hgo
          have Hst := Lib.hid hst'
          clear hst hst' hgo r1 r2
          go_wp2_with fail
          refine Hratp.out.mono ?_
          rintro e w1 ⟨rfl, hb1⟩
          have hB1 := hB.out.after hb1
          have e3 := hB1.cell 3
          simp only [List.getElem?_toArray, List.getElem?_cons_zero, List.getElem?_cons_succ] at e3
          have HB1 := Lib.hid hB1
          have hs1 := hb1.size
          clear hB1 d0 d1 d2 d3
          go_wp2
          go_roundw
          case rel => exact ⟨k + 1, hkk, by rw [Hp1.out], by rw [Hst.out], by rw [Hst.out]; exact Hown'.out.keep hb1, HB1.out, hbl.trans (hb1.mono hbl.size), by omega⟩
          case measure => simp [intOf]; omega
        | true =>
          have hst' : S (k + 1) = (setLast out p, false) := by rw [hst]; simp [spStep, hgo]
          have hcond : 10 * a ≤ of * b := r2.2 hgo
          have hne : 0 < out.length := List.length_pos_iff.2 (hiv.2 rfl)
          obtain ⟨A', c', rfl, hcc, _⟩ := Own.form enc2_len Hown'.out
          obtain ⟨g, cs, rfl, hgb, hgB, hcs, _, hnc, hcm, _⟩ := Own.blk Hown'.out hne
          have Hst := Lib.hid hst'
          have Hcs := Lib.hid hcs
          have HgB := Lib.hid hgB
          clear hst hst' hgo r1 r2 hcs hgB
          unfold maxLen at hcm
          go_wp2_with fail
          refine Hratp.out.mono ?_
          rintro e w1 ⟨rfl, hb1⟩
          have hB1 := hB.out.after hb1
          have e3 := hB1.cell 3
          simp only [List.getElem?_toArray, List.getElem?_cons_zero, List.getElem?_cons_succ] at e3
          have HB1 := Lib.hid hB1
          have hs1 := hb1.size
          have hg1 := HgB.out.after hb1
          have hix : (out.length - 1) * 2 + 1 < cs.size := by rw [Hcs.out]; omega
          have q1 := hg1.cell ((out.length - 1) * 2 + 1)
          have q2 := hg1.frozen ((out.length - 1) * 2 + 1)
          rw [Array.getElem?_eq_getElem hix] at q1
          have Hg1 := Lib.hid hg1
          clear hB1 d0 d1 d2 d3 hg1
          go_wp2
          go_roundw
          case rel =>
            refine ⟨k + 1, hkk, by rw [Hp1.out], by rw [Hst.out], ?_, HB1.out.far (by show w.heap.size ≠ g; omega) _, (hbl.trans (hb1.mono hbl.size)).setCell (by show w.heap.size ≤ g; omega) _, by simp [World.setCell]; omega⟩
            rw [Hst.out]
            exact own_setLast (Hown'.out.keep hb1) hne _ Hg1.out (Hg1.out.set_ _ _)
          case measure => simp [intOf]; omega
    · have hkn : k = l.length + 1 - ln := by omega
      have hown' : Own enc2 2 wr w.heap.size 54 u5 (S (l.length + 1 - ln)).1 := by rw [← hkn]; exact hown.out.mono (by omega)
      have Hown' := Lib.hid hown'
      clear hown' hkn hp hp1
      go_wp2
      go_ret
      exact ⟨_, rfl, Hown'.out, hbl⟩

end Go.Proofs.Ytaemdldpcpefbaa
