/-
  Contracts of the bonus of a distance. (Printed by gen_E2.py.)
-/
import Derived.Test.YtjnaigpogloboaaDoorTable
import Derived.BigRegion
import Derived.IntWalk
namespace Go.Proofs.YtjnaigpogloboaaDoor
set_option linter.unusedVariables false
open Go.RowKit

def interp (a b : TableRow) (far : Int) : Int := a.bonus + (far - a.far) * (b.bonus - a.bonus) / (b.far - a.far)
def farP (far : Int) (r : TableRow) : Bool := decide (far ≤ r.far)
/-- The first row that is far enough, or -1. -/
def bonI (l : List TableRow) (far : Int) : Int := idxOf (farP far) l
def bonV (l : List TableRow) (far : Int) : Int :=
  match bonI l far with
  | .negSucc _ => 0
  | .ofNat 0 => match l[0]? with | none => 0 | some b => b.bonus
  | .ofNat (k + 1) => match l[k]?, l[k + 1]? with | some a, some b => interp a b far | _, _ => 0
def bonOk (l : List TableRow) (far : Int) : Bool := decide (0 ≤ bonI l far)
/-- The same, -1 where there is none. -/
def bonS (l : List TableRow) (far : Int) : Int := if bonOk l far then bonV l far else -1
theorem bon_zero {l : List TableRow} {far : Int} (h : 0 < l.length) (hf : far ≤ l[0].far) : bonV l far = l[0].bonus ∧ bonOk l far = true := by
  have e : bonI l far = ((0 : Nat) : Int) := idxOf_hit _ l 0 h (by simpa [farP] using hf) rfl
  have e2 : bonV l far = l[0].bonus := by
    unfold bonV; rw [e]; show (match l[0]? with | none => 0 | some b => b.bonus) = _; rw [List.getElem?_eq_getElem h]
  exact ⟨e2, by unfold bonOk; rw [e]; rfl⟩
theorem bon_hit {l : List TableRow} {far : Int} {k : Nat} (h : k + 1 < l.length) (hf : far ≤ l[k + 1].far) (h0 : (l.take (k + 1)).any (farP far) = false) : bonV l far = interp (l[k]'(by omega)) l[k + 1] far ∧ bonOk l far = true := by
  have e : bonI l far = ((k + 1 : Nat) : Int) := idxOf_hit _ l (k + 1) h (by simpa [farP] using hf) h0
  have e2 : bonV l far = interp (l[k]'(by omega)) l[k + 1] far := by
    unfold bonV; rw [e]
    show (match l[k]?, l[k + 1]? with | some a, some b => interp a b far | _, _ => 0) = _
    rw [List.getElem?_eq_getElem (show k < l.length by omega), List.getElem?_eq_getElem h]
  exact ⟨e2, by unfold bonOk; rw [e]; exact decide_eq_true (by omega)⟩
theorem bon_miss {l : List TableRow} {far : Int} (h0 : l.any (farP far) = false) : bonV l far = 0 ∧ bonOk l far = false := by
  have e : bonI l far = -1 := idxOf_miss _ l h0
  exact ⟨by unfold bonV; rw [e]; rfl, by unfold bonOk; rw [e]; rfl⟩
theorem okTR_iff {x : TableRow} : okTR x = true ↔ (0 ≤ x.far ∧ x.far ≤ 1500) ∧ (0 ≤ x.bonus ∧ x.bonus ≤ 600) := by simp only [okTR, Bool.and_eq_true, inB_iff]
theorem goodT_len {l : List TableRow} (h : goodT l = true) : 2 ≤ l.length ∧ l.length ≤ 8 := by
  simp only [goodT, Bool.and_eq_true, inB_iff] at h; omega
theorem goodT_get {l : List TableRow} (h : goodT l = true) {k : Nat} (hk : k < l.length) : (0 ≤ l[k].far ∧ l[k].far ≤ 1500) ∧ (0 ≤ l[k].bonus ∧ l[k].bonus ≤ 600) := by
  simp only [goodT, Bool.and_eq_true] at h
  exact okTR_iff.1 (chk_get h.1 hk)
theorem goodT_lt {l : List TableRow} (h : goodT l = true) {k : Nat} (hk : k + 1 < l.length) : (l[k]'(by omega)).far < l[k + 1].far ∧ (l[k]'(by omega)).bonus ≤ l[k + 1].bonus := by
  simp only [goodT, Bool.and_eq_true] at h
  have := chk_lt h.1 hk
  simpa only [ltTR, Bool.and_eq_true, decide_eq_true_eq] using this
theorem interp_bd {a b : TableRow} {far : Int} (h1 : a.far < far) (h2 : far ≤ b.far) (h3 : a.bonus ≤ b.bonus) (h4 : 0 ≤ a.far ∧ b.far ≤ 1500) (h5 : 0 ≤ a.bonus ∧ b.bonus ≤ 600) :
    (0 ≤ (far - a.far) * (b.bonus - a.bonus) ∧ (far - a.far) * (b.bonus - a.bonus) ≤ 900000) ∧ (0 ≤ (far - a.far) * (b.bonus - a.bonus) / (b.far - a.far) ∧ (far - a.far) * (b.bonus - a.bonus) / (b.far - a.far) ≤ b.bonus - a.bonus) := by
  have p0 := Int.mul_nonneg (show 0 ≤ far - a.far by omega) (show 0 ≤ b.bonus - a.bonus by omega)
  have p1 : (far - a.far) * (b.bonus - a.bonus) ≤ 1500 * 600 := Int.mul_le_mul (by omega) (by omega) (by omega) (by omega)
  have p2 : (far - a.far) * (b.bonus - a.bonus) ≤ (b.far - a.far) * (b.bonus - a.bonus) := Int.mul_le_mul_of_nonneg_right (by omega) (by omega)
  refine ⟨⟨p0, by omega⟩, Int.ediv_nonneg p0 (by omega), ?_⟩
  have := Int.ediv_le_ediv (show 0 < b.far - a.far by omega) p2
  rwa [Int.mul_ediv_cancel_left _ (show b.far - a.far ≠ 0 by omega)] at this
theorem bonV_bd {l : List TableRow} {far : Int} (h : goodT l = true) : 0 ≤ bonV l far ∧ bonV l far ≤ 600 := by
  have hl := goodT_len h
  cases ha : l.any (farP far) with
  | false => rw [(bon_miss ha).1]; omega
  | true =>
    have e : bonI l far = (l.findIdx (farP far) : Int) := by unfold bonI idxOf; rw [if_pos ha]
    rw [List.any_eq_true] at ha
    have hlt := List.findIdx_lt_length_of_exists ha
    have hp := List.findIdx_getElem (w := hlt)
    have hn : ∀ j (hj : j < l.findIdx (farP far)), farP far (l[j]'(by omega)) = false := fun j hj => by simpa using List.not_of_lt_findIdx hj
    have key : ∀ (k : Nat) (hlt : k < l.length), farP far l[k] = true → (∀ j (hj : j < k), farP far (l[j]'(by omega)) = false) → 0 ≤ bonV l far ∧ bonV l far ≤ 600 := by
      intro k hlt hp hn
      cases k with
      | zero =>
        have := bon_zero hlt (by simpa [farP] using hp)
        rw [this.1]
        have := goodT_get h hlt
        omega
      | succ k =>
        have h0 : (l.take (k + 1)).any (farP far) = false := by
          rw [List.any_eq_false]
          intro x hx
          obtain ⟨j, hj, rfl⟩ := List.mem_iff_getElem.1 hx
          rw [List.getElem_take]
          simp only [List.length_take] at hj
          simp [hn j (by omega)]
        have hf : far ≤ l[k + 1].far := by simpa [farP] using hp
        rw [(bon_hit hlt hf h0).1]
        have g1 := goodT_get h (show k < l.length by omega)
        have g2 := goodT_get h hlt
        have g3 := goodT_lt h hlt
        have hk1 := hn k (by omega)
        simp only [farP, decide_eq_false_iff_not] at hk1
        have := interp_bd (far := far) (by omega) hf g3.2 ⟨g1.1.1, g2.1.2⟩ ⟨g1.2.1, g2.2.2⟩
        unfold interp
        omega
    exact key _ hlt hp hn

set_option maxRecDepth 100000 in
set_option maxHeartbeats 1000000 in
theorem bonus_any (A : Option Addr) (c : Nat) (l : List TableRow) (far : Int) (w : World) (h : Rd encT 2 w w.heap.size A l) (hg : goodT l = true) (hf : 0 ≤ far ∧ far ≤ 1500) :
    Calls Tryd.prog 68 #[.slice A l.length c, .int .i64 far] w fun e w' => e = .returned (.tuple #[.int .i64 (bonV l far), .bool (bonOk l far)]) ∧ Below w.heap.size w w' := by
  have hlen := goodT_len hg
  have h0 : 0 < l.length := by omega
  have h0i : (0 : Int) < (l.length : Int) := by omega
  obtain ⟨b, off, rfl, hb, c0, c1⟩ := cellsT h h0
  simp only [Nat.zero_mul, Nat.add_zero] at c0 c1
  have hz := bon_zero (far := far) h0
  have ht1 : ¬ far ≤ l[0].far → (l.take 1).any (farP far) = false := by
    intro hn
    rw [any_take_succ _ l 0 h0]
    simpa [farP] using hn
  generalize l[0] = x0 at *
  by_cases hx : far ≤ x0.far
  · have Hz := Lib.hid (hz hx)
    clear hz ht1
    go_enter Tryd.func68, Tryd.ntmps68
    go_wp2
    go_ret2
    rw [Hz.out.1, Hz.out.2]
    exact ⟨rfl, Below.refl _ _⟩
  · have Ht1 := Lib.hid (ht1 hx)
    clear hz ht1
    go_enter Tryd.func68, Tryd.ntmps68
    go_wp2
    go_loopw [6] (fun i wr => ∃ k : Nat, k + 1 ≤ l.length ∧ i = .int .i64 ((k + 1 : Nat) : Int) ∧ Hid ((l.take (k + 1)).any (farP far) = false) ∧ Below w.heap.size w wr) (fun i _ => l.length - (intOf i).toNat)
    case atStart => exact ⟨0, by omega, rfl, Ht1, Below.refl _ _⟩
    case round =>
      obtain ⟨k, hk, rfl, Hq, hbl⟩ := hrel
      clear c0 c1
      by_cases hlt : k + 1 < l.length
      · obtain ⟨b', off', e', hb', d0, d1⟩ := cellsT (h.below hbl) (show k < l.length by omega)
        injection e' with e'
        injection e' with e1 e2
        subst e1 e2
        obtain ⟨b', off', e', hb', f0, f1⟩ := cellsT (h.below hbl) hlt
        injection e' with e'
        injection e' with e1 e2
        subst e1 e2
        have ek : ((k + 1 : Nat) : Int) = (k : Int) + 1 := by omega
        have hlti : (k : Int) + 1 < (l.length : Int) := by omega
        have hltj : (k : Int) < (l.length : Int) := by omega
        have hk0 : (0 : Int) ≤ (k : Int) := by omega
        have hhit := fun hf => bon_hit (far := far) hlt hf Hq.out
        have hnext : ¬ far ≤ l[k + 1].far → (l.take (k + 1 + 1)).any (farP far) = false := by
          intro hn
          rw [any_take_succ _ l (k + 1) hlt, Hq.out]
          simpa [farP] using hn
        have hka : l[k].far < far := by
          have := Hq.out
          rw [any_take_succ _ l k (by omega)] at this
          simp only [farP, Bool.or_eq_false_iff, decide_eq_false_iff_not] at this
          omega
        have g1 := goodT_get hg (show k < l.length by omega)
        have g2 := goodT_get hg hlt
        have g3 := goodT_lt hg hlt
        generalize l[k + 1] = y at *
        generalize l[k] = x at *
        obtain ⟨xf, xb⟩ := x
        obtain ⟨yf, yb⟩ := y
        simp only at *
        rw [ek]
        have hwk := IntWalk.i64_in (k : Int) (by omega)
        have hwk2 : ((k : Int) + 1).toNat = k + 1 := by omega
        have hwk3 : (0 : Int) ≤ (k : Int) + 1 := by omega
        have hbw : b < wr.heap.size := Nat.lt_of_lt_of_le hb hbl.size
        have hbw1 : b < wr.heap.size + 1 := by omega
        have hbw2 : ¬ b = wr.heap.size := by omega
        have hbw3 : ¬ b = wr.heap.size + 1 := by omega
        by_cases hy : far ≤ yf
        · have Hh := Lib.hid (hhit hy)
          obtain ⟨⟨p0, p1⟩, p2, p3⟩ := interp_bd (a := ⟨xf, xb⟩) (b := ⟨yf, yb⟩) hka hy g3.2 ⟨g1.1.1, g2.1.2⟩ ⟨g1.2.1, g2.2.2⟩
          simp only at p0 p1 p2 p3
          have hz0 : (yf - xf == 0) = false := by simp; omega
          clear hhit hnext
          go_wp2_with fail
          go_region
          all_goals
            go_wp2
            go_quiet (fail)
            go_wp2
            go_ret2
            rw [Hh.out.1, Hh.out.2]
            exact ⟨rfl, by (have hsz := hbl.size); (repeat (first | with_reducible exact Below.refl _ _ | with_reducible assumption | with_reducible refine Below.setCell ?_ (by simp <;> omega) _ | with_reducible refine Below.alloc ?_ (by first | omega | (simp <;> omega)) _ | with_reducible refine Below.drew ?_ | with_reducible refine below_drewN ?_ _))⟩
        · have Hn := Lib.hid (hnext hy)
          clear hhit hnext
          go_wp2_with fail
          go_region
          all_goals
            have hsz := hbl.size
            go_wp2
            go_roundw
            case rel =>
              refine ⟨k + 1, by omega, by go_num, Hn.out, ?_⟩
              (repeat (first | with_reducible exact Below.refl _ _ | with_reducible assumption | with_reducible refine Below.setCell ?_ (by simp <;> omega) _ | with_reducible refine Below.alloc ?_ (by first | omega | (simp <;> omega)) _ | with_reducible refine Below.drew ?_ | with_reducible refine below_drewN ?_ _))
            case measure => simp [intOf]; omega
      · have hm : l.any (farP far) = false := by
          have := Hq.out
          rwa [List.take_of_length_le (by omega)] at this
        have Hm := Lib.hid (bon_miss hm)
        have ek : ((k + 1 : Nat) : Int) = (l.length : Int) := by omega
        rw [ek]
        clear hm ek
        go_wp2
        go_ret2
        rw [Hm.out.1, Hm.out.2]
        exact ⟨rfl, hbl⟩

set_option maxRecDepth 100000 in
set_option maxHeartbeats 1000000 in
theorem l11Bonus_any (A : Option Addr) (c : Nat) (l : List TableRow) (far : Int) (w : World) (h : Rd encT 2 w w.heap.size A l) (hg : goodT l = true) (hf : 0 ≤ far ∧ far ≤ 1500) :
    Calls Tryd.prog 84 #[.slice A l.length c, .int .i64 far] w fun e w' => e = .returned (.int .i64 (bonS l far)) ∧ Below w.heap.size w w' := by
  have hlen := goodT_len hg
  have h0 : 0 < l.length := by omega
  have h0i : (0 : Int) < (l.length : Int) := by omega
  obtain ⟨b, off, rfl, hb, c0, c1⟩ := cellsT h h0
  simp only [Nat.zero_mul, Nat.add_zero] at c0 c1
  have hz := bon_zero (far := far) h0
  have ht1 : ¬ far ≤ l[0].far → (l.take 1).any (farP far) = false := by
    intro hn
    rw [any_take_succ _ l 0 h0]
    simpa [farP] using hn
  generalize l[0] = x0 at *
  by_cases hx : far ≤ x0.far
  · have Hz := Lib.hid (hz hx)
    clear hz ht1
    go_enter Tryd.func84, Tryd.ntmps84
    go_wp2
    go_ret
    exact ⟨ret_int (by simp [bonS, Hz.out.1, Hz.out.2]), Below.refl _ _⟩
  · have Ht1 := Lib.hid (ht1 hx)
    clear hz ht1
    go_enter Tryd.func84, Tryd.ntmps84
    go_wp2
    go_loopw [5] (fun i wr => ∃ k : Nat, k + 1 ≤ l.length ∧ i = .int .i64 ((k + 1 : Nat) : Int) ∧ Hid ((l.take (k + 1)).any (farP far) = false) ∧ Below w.heap.size w wr) (fun i _ => l.length - (intOf i).toNat)
    case atStart => exact ⟨0, by omega, rfl, Ht1, Below.refl _ _⟩
    case round =>
      obtain ⟨k, hk, rfl, Hq, hbl⟩ := hrel
      clear c0 c1
      by_cases hlt : k + 1 < l.length
      · obtain ⟨b', off', e', hb', d0, d1⟩ := cellsT (h.below hbl) (show k < l.length by omega)
        injection e' with e'
        injection e' with e1 e2
        subst e1 e2
        obtain ⟨b', off', e', hb', f0, f1⟩ := cellsT (h.below hbl) hlt
        injection e' with e'
        injection e' with e1 e2
        subst e1 e2
        have ek : ((k + 1 : Nat) : Int) = (k : Int) + 1 := by omega
        have hlti : (k : Int) + 1 < (l.length : Int) := by omega
        have hltj : (k : Int) < (l.length : Int) := by omega
        have hk0 : (0 : Int) ≤ (k : Int) := by omega
        have hhit := fun hf => bon_hit (far := far) hlt hf Hq.out
        have hnext : ¬ far ≤ l[k + 1].far → (l.take (k + 1 + 1)).any (farP far) = false := by
          intro hn
          rw [any_take_succ _ l (k + 1) hlt, Hq.out]
          simpa [farP] using hn
        have hka : l[k].far < far := by
          have := Hq.out
          rw [any_take_succ _ l k (by omega)] at this
          simp only [farP, Bool.or_eq_false_iff, decide_eq_false_iff_not] at this
          omega
        have g1 := goodT_get hg (show k < l.length by omega)
        have g2 := goodT_get hg hlt
        have g3 := goodT_lt hg hlt
        generalize l[k + 1] = y at *
        generalize l[k] = x at *
        obtain ⟨xf, xb⟩ := x
        obtain ⟨yf, yb⟩ := y
        simp only at *
        rw [ek]
        have hwk := IntWalk.i64_in (k : Int) (by omega)
        have hwk2 : ((k : Int) + 1).toNat = k + 1 := by omega
        have hwk3 : (0 : Int) ≤ (k : Int) + 1 := by omega
        have hbw : b < wr.heap.size := Nat.lt_of_lt_of_le hb hbl.size
        have hbw1 : b < wr.heap.size + 1 := by omega
        have hbw2 : ¬ b = wr.heap.size := by omega
        have hbw3 : ¬ b = wr.heap.size + 1 := by omega
        by_cases hy : far ≤ yf
        · have Hh := Lib.hid (hhit hy)
          obtain ⟨⟨p0, p1⟩, p2, p3⟩ := interp_bd (a := ⟨xf, xb⟩) (b := ⟨yf, yb⟩) hka hy g3.2 ⟨g1.1.1, g2.1.2⟩ ⟨g1.2.1, g2.2.2⟩
          simp only at p0 p1 p2 p3
          have hz0 : (yf - xf == 0) = false := by simp; omega
          clear hhit hnext
          go_wp2_with fail
          go_region
          all_goals
            go_wp2
            go_quiet (fail)
            go_wp2
            go_ret
            exact ⟨ret_int (by simp [bonS, Hh.out.1, Hh.out.2, interp]), by (have hsz := hbl.size); (repeat (first | with_reducible exact Below.refl _ _ | with_reducible assumption | with_reducible refine Below.setCell ?_ (by simp <;> omega) _ | with_reducible refine Below.alloc ?_ (by first | omega | (simp <;> omega)) _ | with_reducible refine Below.drew ?_ | with_reducible refine below_drewN ?_ _))⟩
        · have Hn := Lib.hid (hnext hy)
          clear hhit hnext
          go_wp2_with fail
          go_region
          all_goals
            have hsz := hbl.size
            go_wp2
            go_roundw
            case rel =>
              refine ⟨k + 1, by omega, by go_num, Hn.out, ?_⟩
              (repeat (first | with_reducible exact Below.refl _ _ | with_reducible assumption | with_reducible refine Below.setCell ?_ (by simp <;> omega) _ | with_reducible refine Below.alloc ?_ (by first | omega | (simp <;> omega)) _ | with_reducible refine Below.drew ?_ | with_reducible refine below_drewN ?_ _))
            case measure => simp [intOf]; omega
      · have hm : l.any (farP far) = false := by
          have := Hq.out
          rwa [List.take_of_length_le (by omega)] at this
        have Hm := Lib.hid (bon_miss hm)
        have ek : ((k + 1 : Nat) : Int) = (l.length : Int) := by omega
        rw [ek]
        clear hm ek
        go_wp2
        go_ret
        exact ⟨ret_int (by simp [bonS, Hm.out.2]), hbl⟩

end Go.Proofs.YtjnaigpogloboaaDoor
