/-
  Contracts of BonusAt. (Printed by gen_E2.py.)
-/
import Derived.Test.YtjnaigpogloboaaDoorBonus
namespace Go.Proofs.YtjnaigpogloboaaDoor
set_option linter.unusedVariables false
open Go.RowKit

def okB (l : List TableRow) (far : Int) : Bool := goodT l && inB far 0 1500
def BAok (l : List TableRow) (far : Int) : Bool := okB l far && bonOk l far
def BAv (l : List TableRow) (far : Int) : Int := if okB l far then bonV l far else 0
theorem bonV_no {l : List TableRow} {far : Int} (h : bonOk l far = false) : bonV l far = 0 := by
  unfold bonOk at h
  unfold bonV
  cases hb : bonI l far with
  | negSucc k => rfl
  | ofNat k => rw [hb] at h; simp at h

theorem BonusAt_any (A : Option Addr) (c : Nat) (l : List TableRow) (far : Int) (w : World) (h : Rd encT 2 w w.heap.size A l) (hl : l.length ≤ 1048576) :
    Calls Tryd.prog 43 #[.slice A l.length c, .int .i64 far] w fun e w' => e = .returned (.tuple #[.int .i64 (BAv l far), .bool (BAok l far)]) ∧ Below w.heap.size w w' := by
  have HT := Lib.hid (IsTable_any A c l w h hl)
  unfold BAok BAv okB
  cases hg : goodT l with
  | false =>
    simp only [Bool.false_and, Bool.false_eq_true, if_false]
    go_enter Tryd.func43, Tryd.ntmps43
    go_wp2_with (go_at_call 47; refine HT.out.mono ?_; rintro e w1 ⟨rfl, hb1⟩; rw [hg])
    go_ret2
    exact ⟨rfl, hb1⟩
  | true =>
    cases hf : inB far 0 1500 with
    | false =>
      simp only [Bool.and_false, Bool.false_and, Bool.false_eq_true, if_false]
      go_enter Tryd.func43, Tryd.ntmps43
      go_wp2_with (first | (go_at_call 47; refine HT.out.mono ?_; rintro e w1 ⟨rfl, hb1⟩; rw [hg]) | (go_at_call 67; refine (isFar_any _ _).mono ?_; rintro e w' ⟨rfl, rfl⟩))
      go_ret2
      exact ⟨rfl, hb1⟩
    | true =>
      simp only [Bool.true_and, Bool.and_true, if_true]
      have hfr := inB_iff.1 hf
      go_enter Tryd.func43, Tryd.ntmps43
      go_wp2_with (first | (go_at_call 47; refine HT.out.mono ?_; rintro e w1 ⟨rfl, hb1⟩; rw [hg]) | (go_at_call 67; refine (isFar_any _ _).mono ?_; rintro e w' ⟨rfl, rfl⟩) | (go_at_call 68; refine (bonus_any A c l far _ (h.after hb1) hg hfr).mono ?_; rintro e w2 ⟨rfl, hb2⟩))
      go_ret2
      exact ⟨rfl, hb1.trans (hb2.mono hb1.size)⟩

theorem sBonusAt_any (A : Option Addr) (c : Nat) (l : List TableRow) (far : Int) (w : World) (h : Rd encT 2 w w.heap.size A l) (hl : l.length ≤ 1048576) :
    Calls Tryd.prog 44 #[.slice A l.length c, .int .i64 far] w fun e w' => e = .returned (.tuple #[.int .i64 (BAv l far), .bool (BAok l far)]) ∧ Below w.heap.size w w' := by
  have HT := Lib.hid (l11Table_any A c l w h hl)
  unfold BAok BAv okB
  cases hg : goodT l with
  | false =>
    simp only [Bool.false_and, Bool.false_eq_true, if_false]
    go_enter Tryd.func44, Tryd.ntmps44
    go_wp2_with (go_at_call 70; refine HT.out.mono ?_; rintro e w1 ⟨rfl, hb1⟩; rw [hg])
    go_ret2
    exact ⟨rfl, hb1⟩
  | true =>
    cases hf : inB far 0 1500 with
    | false =>
      simp only [Bool.and_false, Bool.false_and, Bool.false_eq_true, if_false]
      go_enter Tryd.func44, Tryd.ntmps44
      go_wp2_with (first | (go_at_call 70; refine HT.out.mono ?_; rintro e w1 ⟨rfl, hb1⟩; rw [hg]) | (go_at_call 83; refine (l11Far_any _ _).mono ?_; rintro e w' ⟨rfl, rfl⟩))
      go_ret2
      exact ⟨rfl, hb1⟩
    | true =>
      simp only [Bool.true_and, Bool.and_true, if_true]
      have hfr := inB_iff.1 hf
      have hbd := bonV_bd (far := far) hg
      have Hno := Lib.hid (@bonV_no l far)
      have Hc := Lib.hid (fun W (hr : Rd encT 2 W W.heap.size A l) => l11Bonus_any A c l far W hr hg hfr)
      cases hk : bonOk l far with
      | false =>
        rw [Hno.out hk]
        have hs : bonS l far = -1 := by unfold bonS; rw [hk]; rfl
        rw [hs] at Hc
        clear hs hk
        go_enter Tryd.func44, Tryd.ntmps44
        go_wp2_with (first | (go_at_call 70; refine HT.out.mono ?_; rintro e w1 ⟨rfl, hb1⟩; rw [hg]; have hr1 := h.after hb1) | (go_at_call 83; refine (l11Far_any _ _).mono ?_; rintro e w' ⟨rfl, rfl⟩; rw [hf]) | (go_at_call 84; refine (Hc.out _ hr1).mono ?_; rintro e w2 ⟨rfl, hb2⟩))
        go_ret2
        exact ⟨rfl, hb1.trans (hb2.mono hb1.size)⟩
      | true =>
        have hs : bonS l far = bonV l far := by unfold bonS; rw [hk]; rfl
        rw [hs] at Hc
        clear hs hk
        generalize bonV l far = v at *
        have hvn : ¬ v < 0 := by omega
        go_enter Tryd.func44, Tryd.ntmps44
        go_wp2_with (first | (go_at_call 70; refine HT.out.mono ?_; rintro e w1 ⟨rfl, hb1⟩; rw [hg]; have hr1 := h.after hb1; have hB := hb1) | (go_at_call 83; refine (l11Far_any _ _).mono ?_; rintro e w' ⟨rfl, rfl⟩; rw [hf]) | (go_at_call 84; refine (Hc.out _ hr1).mono ?_; rintro e w2 ⟨rfl, hb2⟩; have hr1 := hr1.after hb2; have hB := hB.trans (hb2.mono hB.size)))
        go_ret2
        exact ⟨rfl, hB⟩

end Go.Proofs.YtjnaigpogloboaaDoor
