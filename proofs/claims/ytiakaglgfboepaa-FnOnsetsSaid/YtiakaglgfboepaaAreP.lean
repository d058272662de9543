/-
  Contracts of the program's ArePicks. (Printed by gen_A3.py.)
-/
import Derived.Test.YtiakaglgfboepaaPickAt
namespace Go.Proofs.Ytiakaglgfboepaa
set_option linter.unusedVariables false
open Go.RowKit

set_option maxRecDepth 100000 in
set_option maxHeartbeats 1000000 in
theorem follows_any (x : Pick) (q : Nat) (A : Option Addr) (c : Nat) (l : List Pick) (W : World) (hq : Blk W q 31 #[.slice A l.length c]) (h : Rd encP 7 W W.heap.size A l) (hl : l.length ≤ 1048576) :
    Calls Try.prog 64 #[.agg #[.int .i64 x.id, .int .i64 x.station, .int .i64 x.wave, .int .i64 x.tick, .int .i64 x.err, .int .i64 x.by_, .int .i64 x.after_], .pointer (some ⟨q, 0, none⟩)] W fun e w' => e = .returned (.bool (folP l x)) ∧ Below W.heap.size W w' := by
  have hlt := hq.lt
  have hne : ¬ q = W.heap.size := by omega
  have hB0 : Below W.heap.size W (W.alloc (.cells #[.int .i64 x.id, .int .i64 x.station, .int .i64 x.wave, .int .i64 x.tick, .int .i64 x.err, .int .i64 x.by_, .int .i64 x.after_] 25)) := by (repeat (first | with_reducible exact Below.refl _ _ | with_reducible assumption | with_reducible refine Below.setCell ?_ (by simp <;> omega) _ | with_reducible refine Below.alloc ?_ (by first | omega | (simp <;> omega)) _ | with_reducible refine Below.drew ?_ | with_reducible refine below_drewN ?_ _))
  have hX := Blk.new W 25 #[.int .i64 x.id, .int .i64 x.station, .int .i64 x.wave, .int .i64 x.tick, .int .i64 x.err, .int .i64 x.by_, .int .i64 x.after_]
  have hr := (h.below hB0).more hB0.size
  have Hq := Lib.hid (hq.after hB0)
  have HX := Lib.hid hX
  have c0 := hq.cell 0
  simp only [List.getElem?_toArray, List.getElem?_cons_zero] at c0
  have hat := pickAt_any A c l (W.alloc (.cells #[.int .i64 x.id, .int .i64 x.station, .int .i64 x.wave, .int .i64 x.tick, .int .i64 x.err, .int .i64 x.by_, .int .i64 x.after_] 25)) hr hl x.after_
  have hfb := findP_bd l x.after_
  have hfol : folP l x = match l[(findP l x.after_).toNat]? with | none => false | some q => decide (0 ≤ findP l x.after_) && q.station == x.station && q.wave == x.wave := rfl
  generalize findP l x.after_ = r at *
  have Hat := Lib.hid hat
  clear hat hX hq
  by_cases h0 : 0 ≤ r
  · obtain ⟨k, hk, rfl, hid⟩ := hfb h0
    have hfv : folP l x = (l[k].station == x.station && l[k].wave == x.wave) := by rw [hfol, Int.toNat_natCast, List.getElem?_eq_getElem hk]; simp
    rw [hfv]
    clear hfv hfol hfb hid h0
    have hki : (k : Int) < (l.length : Int) := by omega
    obtain ⟨b0, off0, rfl, hb0, _⟩ := cellsP h hk
    cases hs : (l[k].station == x.station) with
    | false =>
      simp only [Bool.false_and]
      go_enter Try.func64, Try.ntmps64
      go_wp2_with fail
      refine Hat.out.mono ?_
      rintro e w1 ⟨rfl, hb1⟩
      have g0 := (Hq.out.after hb1).cell 0
      simp only [List.getElem?_toArray, List.getElem?_cons_zero] at g0
      obtain ⟨x0, x1, x2, x3, x4, x5, x6⟩ := box7 (HX.out.after hb1)
      obtain ⟨b', off', e', hb', d0, d1, d2, d3, d4, d5, d6⟩ := cellsP (hr.after hb1) hk
      injection e' with e'
      injection e' with e1 e2
      subst e1 e2
      have hB1 := hB0.trans (hb1.mono hB0.size)
      generalize l[k] = y at *
      clear c0
      go_wp2_with fail
      go_quiet (fail)
      go_wp2
      go_ret
      exact ⟨rfl, below_drewN hB1 _⟩
    | true =>
      simp only [Bool.true_and]
      cases hv : (l[k].wave == x.wave) with
      | false =>
        go_enter Try.func64, Try.ntmps64
        go_wp2_with fail
        refine Hat.out.mono ?_
        rintro e w1 ⟨rfl, hb1⟩
        have g0 := (Hq.out.after hb1).cell 0
        simp only [List.getElem?_toArray, List.getElem?_cons_zero] at g0
        obtain ⟨x0, x1, x2, x3, x4, x5, x6⟩ := box7 (HX.out.after hb1)
        obtain ⟨b', off', e', hb', d0, d1, d2, d3, d4, d5, d6⟩ := cellsP (hr.after hb1) hk
        injection e' with e'
        injection e' with e1 e2
        subst e1 e2
        have hB1 := hB0.trans (hb1.mono hB0.size)
        generalize l[k] = y at *
        clear c0
        go_wp2_with fail
        go_quiet (fail)
        go_wp2
        go_ret
        exact ⟨rfl, below_drewN hB1 _⟩
      | true =>
        go_enter Try.func64, Try.ntmps64
        go_wp2_with fail
        refine Hat.out.mono ?_
        rintro e w1 ⟨rfl, hb1⟩
        have g0 := (Hq.out.after hb1).cell 0
        simp only [List.getElem?_toArray, List.getElem?_cons_zero] at g0
        obtain ⟨x0, x1, x2, x3, x4, x5, x6⟩ := box7 (HX.out.after hb1)
        obtain ⟨b', off', e', hb', d0, d1, d2, d3, d4, d5, d6⟩ := cellsP (hr.after hb1) hk
        injection e' with e'
        injection e' with e1 e2
        subst e1 e2
        have hB1 := hB0.trans (hb1.mono hB0.size)
        generalize l[k] = y at *
        clear c0
        go_wp2_with fail
        go_quiet (fail)
        go_wp2
        go_ret
        exact ⟨rfl, below_drewN hB1 _⟩
  · have hd : decide (0 ≤ r) = false := by simpa using h0
    have hfv : folP l x = false := by rw [hfol, hd]; cases l[r.toNat]? <;> simp
    rw [hfv]
    clear hfv hfol hfb
    have hlt0 : r < 0 := by omega
    go_enter Try.func64, Try.ntmps64
    go_wp2_with fail
    refine Hat.out.mono ?_
    rintro e w1 ⟨rfl, hb1⟩
    have hB1 := hB0.trans (hb1.mono hB0.size)
    clear c0
    go_wp2_with fail
    go_quiet (fail)
    go_wp2
    go_ret
    exact ⟨rfl, below_drewN hB1 _⟩

theorem ArePicks2_any (x : Pick) (W : World) : Calls Try.prog 68 #[.agg #[.int .i64 x.id, .int .i64 x.station, .int .i64 x.wave, .int .i64 x.tick, .int .i64 x.err, .int .i64 x.by_, .int .i64 x.after_]] W fun e w' => e = .returned (.int .i64 x.id) ∧ Below W.heap.size W w' := by
  go_enter Try.func68, Try.ntmps68
  go_wp2
  go_ret
  exact ⟨rfl, (Below.refl _ _).alloc (Nat.le_refl _) _⟩
theorem ArePicks3_any (x : Pick) (W : World) : Calls Try.prog 71 #[.agg #[.int .i64 x.id, .int .i64 x.station, .int .i64 x.wave, .int .i64 x.tick, .int .i64 x.err, .int .i64 x.by_, .int .i64 x.after_]] W fun e w' => e = .returned (.int .i64 x.after_) ∧ Below W.heap.size W w' := by
  go_enter Try.func71, Try.ntmps71
  go_wp2
  go_ret
  exact ⟨rfl, (Below.refl _ _).alloc (Nat.le_refl _) _⟩

set_option maxRecDepth 100000 in
set_option maxHeartbeats 1000000 in
theorem ArePicks_any (A : Option Addr) (c : Nat) (l : List Pick) (w : World) (h : Rd encP 7 w w.heap.size A l) (hl : l.length ≤ 1048576) :
    Calls Try.prog 21 #[.slice A l.length c] w fun e w' => e = .returned (.bool (picksS l)) ∧ Below w.heap.size w w' := by
  rw [← picks_eq]
  unfold picksI
  have hB0 : Below w.heap.size w (w.alloc (.cells #[.slice A l.length c] 31)) := by (repeat (first | with_reducible exact Below.refl _ _ | with_reducible assumption | with_reducible refine Below.setCell ?_ (by simp <;> omega) _ | with_reducible refine Below.alloc ?_ (by first | omega | (simp <;> omega)) _ | with_reducible refine Below.drew ?_ | with_reducible refine below_drewN ?_ _))
  have HQ := Lib.hid (Blk.new w 31 #[.slice A l.length c])
  have hr := (h.below hB0).more hB0.size
  have hmf : ∀ (fn : Fn) (first cap : Array Value) (w : World), (Instr.makeFunc fn first cap).run Try.prog w = .ok (.func fn first cap) w := fun _ _ _ _ => rfl
  have hrep := replacing_any A c l (w.alloc (.cells #[.slice A l.length c] 31)) hr hl
  have hLl := latP_le l
  obtain ⟨b1, hb1⟩ : ∃ b, (chk goodP ltP l && decide (l.length ≤ 12)) = b := ⟨_, rfl⟩
  rw [hb1]
  have hlist : ∀ W, Rd encP 7 W W.heap.size A l → Calls Try.prog 67 #[.slice A l.length c, .int .i64 12, .func (.func 17) #[] #[], .func (.func 68) #[] #[]] W fun e w' => e = .returned (.bool b1) ∧ Below W.heap.size W w' := fun W hW => by
    have hcon := areListedP_any 17 68 #[] #[] (enters_of Try.func17 (by kernel_rfl) rfl) (enters_of Try.func68 (by kernel_rfl) rfl) A c l 12 goodP Pick.id W hW hl (fun W x _ _ => IsPick_any x W) (fun W x _ _ => ArePicks2_any x W)
    rw [← hb1]
    have e1 : decide ((l.length : Int) ≤ 12) = decide (l.length ≤ 12) := by
      rw [Bool.eq_iff_iff, decide_eq_true_eq, decide_eq_true_eq]; omega
    rw [e1] at hcon
    exact hcon
  have Hrep := Lib.hid hrep
  have Hlist := Lib.hid hlist
  cases b1 with
  | false =>
    simp only [Bool.false_and]
    clear hb1 hrep hlist
    go_enter Try.func21, Try.ntmps21
    go_wp2_with fail
    refine Hrep.out.mono ?_
    rintro e w1 ⟨v, rfl, hown, hw1⟩
    have q0 := (HQ.out.after hw1).cell 0
    simp only [List.getElem?_toArray, List.getElem?_cons_zero] at q0
    have hr1 := hr.after hw1
    have hB1 := hB0.trans (hw1.mono hB0.size)
    clear hown
    go_wp2_with fail
    refine (Hlist.out _ hr1).mono ?_
    rintro e w2 ⟨rfl, hw2⟩
    go_wp2
    go_ret
    exact ⟨rfl, hB1.trans (hw2.mono hB1.size)⟩
  | true =>
    simp only [Bool.true_and]
    rw [Bool.and_eq_true] at hb1
    have hgd : ∀ x ∈ latP l, goodP x = true := fun x hx => chk_mem hb1.1 (latP_mem hx).1
    have hwf : ∀ x ∈ latP l, (Lit.int .i64 x.after_).wf = true := fun x hx => by
      have := goodP_iff.1 (hgd x hx)
      exact WalkArith.wf_i64 (by omega)
    obtain ⟨b2, hb2⟩ : ∃ b, (latP l).all (folP l) = b := ⟨_, rfl⟩
    rw [hb2]
    clear hrep hlist hb1 hgd
    have HW := Lib.hid hwf
    have H2 := Lib.hid hb2
    clear hwf hb2
    go_enter Try.func21, Try.ntmps21
    go_wp2_with fail
    refine Hrep.out.mono ?_
    rintro e w1 ⟨v, rfl, hown, hw1⟩
    obtain ⟨A', c', rfl, hcc, hrl⟩ := Own.form encP_len hown
    have HQ1 := Lib.hid (HQ.out.after hw1)
    have q0 := HQ1.out.cell 0
    simp only [List.getElem?_toArray, List.getElem?_cons_zero] at q0
    have hr1 := hr.after hw1
    have hB1 := hB0.trans (hw1.mono hB0.size)
    clear hown
    go_wp2_with fail
    refine (Hlist.out _ hr1).mono ?_
    rintro e w2 ⟨rfl, hw2⟩
    have hB2 := hB1.trans (hw2.mono hB1.size)
    have hrl2 := hrl.after hw2
    have hr2 := hr1.after hw2
    have HQ2 := Lib.hid (HQ1.out.after hw2)
    have hall := allP_any 64 #[.pointer (some ⟨w.heap.size, 0, none⟩)] (enters_of Try.func64 (by kernel_rfl) rfl) A' c' (latP l) (folP l) w2 hrl2 (by omega) (fun W x _ hW => follows_any x w.heap.size A c l W (HQ2.out.after hW) (hr2.after hW) hl)
    rw [H2.out] at hall
    have Hall := Lib.hid hall
    clear hall q0
    cases b2 with
    | false =>
      go_wp2_with fail
      refine Hall.out.mono ?_
      rintro e w3 ⟨rfl, hw3⟩
      go_wp2
      go_ret
      exact ⟨rfl, hB2.trans (hw3.mono hB2.size)⟩
    | true =>
      go_wp2_with fail
      refine Hall.out.mono ?_
      rintro e w3 ⟨rfl, hw3⟩
      have hB3 := hB2.trans (hw3.mono hB2.size)
      have hrl3 := hrl2.after hw3
      have Hd := Lib.hid (differ_any 71 #[] (enters_of Try.func71 (by kernel_rfl) rfl) A' c' (latP l) Pick.after_ w3 hrl3 (by omega) (fun W x _ => ArePicks3_any x W) HW.out)
      go_wp2_with fail
      refine Hd.out.mono ?_
      rintro e w4 ⟨rfl, hw4⟩
      go_wp2
      go_ret
      exact ⟨ret_bool (by simp), hB3.trans (hw4.mono hB3.size)⟩

end Go.Proofs.Ytiakaglgfboepaa
