/-
  Plain laws of the times that a trigger is on: their lengths add up to the number of places that lie in one.
-/
import Derived.Test.YtaemdldpcpefbaaOnAt
import Derived.Test.YtaemdldpcpefbaaLongest
namespace Go.Proofs.Ytaemdldpcpefbaa
set_option linter.unusedVariables false
open Go.RowKit

def b2i : Bool → Int
  | true => 1
  | false => 0
def cntIn (L : List (Int × Int)) : Nat → Int
  | 0 => 0
  | k + 1 => cntIn L k + b2i (L.any (isIn (k : Int)))
def sumD (L : List (Int × Int)) : Int := L.foldl (fun n x => n + (x.2 - x.1)) 0
theorem isIn_iff {p : Int} {x : Int × Int} : isIn p x = true ↔ x.1 ≤ p ∧ p < x.2 := by
  unfold isIn
  rw [inB_iff]
  omega
theorem sumD_succ (L : List (Int × Int)) (k : Nat) (hk : k < L.length) : sumD (L.take (k + 1)) = sumD (L.take k) + (L[k].2 - L[k].1) := by
  rw [sumD, List.take_succ_eq_append_getElem hk, List.foldl_append]; rfl
theorem sumD_acc (L : List (Int × Int)) : ∀ a : Int, L.foldl (fun n x => n + (x.2 - x.1)) a = a + sumD L := by
  induction L with
  | nil => intro a; simp [sumD]
  | cons x L ih =>
    intro a
    have h1 := ih (a + (x.2 - x.1))
    have h2 := ih (0 + (x.2 - x.1))
    simp only [sumD, List.foldl_cons] at h1 h2 ⊢
    omega
theorem sumD_cons (x : Int × Int) (L : List (Int × Int)) : sumD (x :: L) = (x.2 - x.1) + sumD L := by
  have := sumD_acc L (0 + (x.2 - x.1))
  simp only [sumD, List.foldl_cons] at this ⊢
  omega
theorem cntIn_cons {x : Int × Int} {L : List (Int × Int)} (h : ∀ i : Nat, isIn (i : Int) x = true → L.any (isIn (i : Int)) = false) : ∀ k, cntIn (x :: L) k = cntIn [x] k + cntIn L k := by
  intro k
  induction k with
  | zero => rfl
  | succ k ih =>
    simp only [cntIn, ih, List.any_cons, List.any_nil, Bool.or_false]
    by_cases hx : isIn (k : Int) x = true
    · rw [h k hx, hx]; simp [b2i]; omega
    · have hx2 : isIn (k : Int) x = false := by simpa using hx
      rw [hx2]; simp [b2i]; omega
theorem cntIn_one {x : Int × Int} (h0 : 0 ≤ x.1) (h1 : x.1 ≤ x.2) : ∀ k : Nat, cntIn [x] k = max 0 (min (k : Int) x.2 - x.1) := by
  intro k
  induction k with
  | zero => simp [cntIn]; omega
  | succ k ih =>
    simp only [cntIn, ih, List.any_cons, List.any_nil, Bool.or_false]
    by_cases hx : isIn (k : Int) x = true
    · have := isIn_iff.1 hx
      rw [hx]
      simp only [b2i]
      omega
    · have hn : ¬ (x.1 ≤ (k : Int) ∧ (k : Int) < x.2) := fun e => hx (isIn_iff.2 e)
      rw [show isIn (k : Int) x = false by simpa using hx]
      simp only [b2i]
      omega
theorem cntIn_sum {n : Nat} : ∀ L : List (Int × Int), (∀ x ∈ L, 0 ≤ x.1 ∧ x.1 < x.2 ∧ x.2 ≤ n) → L.Pairwise (fun x y => x.2 < y.1) → cntIn L n = sumD L := by
  intro L
  induction L with
  | nil =>
    intro _ _
    have : ∀ k, cntIn [] k = 0 := by
      intro k
      induction k with
      | zero => rfl
      | succ k ih => simp [cntIn, ih, b2i]
    rw [this]; rfl
  | cons x L ih =>
    intro hb hp
    obtain ⟨p1, p2⟩ := List.pairwise_cons.1 hp
    have hx := hb x (List.mem_cons_self ..)
    rw [cntIn_cons, ih (fun y hy => hb y (List.mem_cons_of_mem _ hy)) p2, cntIn_one hx.1 (by omega), sumD_cons]
    · omega
    · intro i hi
      have h1 := isIn_iff.1 hi
      rw [List.any_eq_false]
      intro y hy h2
      have h3 := isIn_iff.1 h2
      have := p1 y hy
      omega
theorem cntIn_bd (L : List (Int × Int)) : ∀ k : Nat, 0 ≤ cntIn L k ∧ cntIn L k ≤ k := by
  intro k
  induction k with
  | zero => simp [cntIn]
  | succ k ih => simp only [cntIn]; cases L.any (isIn (k : Int)) <;> simp only [b2i] <;> omega
theorem sumD_bd {n : Nat} {L : List (Int × Int)} (h : ∀ x ∈ L, 0 ≤ x.1 ∧ x.1 < x.2 ∧ x.2 ≤ n) : ∀ k, k ≤ L.length → 0 ≤ sumD (L.take k) ∧ sumD (L.take k) ≤ n * k := by
  intro k
  induction k with
  | zero => intro _; simp [sumD]
  | succ k ih =>
    intro hk
    have h1 := ih (by omega)
    have h2 := h L[k] (List.getElem_mem (by omega))
    rw [sumD_succ L k (by omega)]
    have e : (n : Int) * ((k + 1 : Nat) : Int) = n * k + n := by rw [show ((k + 1 : Nat) : Int) = (k : Int) + 1 by omega, Int.mul_add]; omega
    rw [e]
    omega
/-- The longest is 0 where there is none alone. -/
theorem lgT_pos {n : Nat} {L : List (Int × Int)} (h : ∀ x ∈ L, 0 ≤ x.1 ∧ x.1 < x.2 ∧ x.2 ≤ n) : 0 < (lgT L).2 ↔ 0 < L.length := by
  constructor
  · intro h1
    cases L with
    | nil => simp [lgT] at h1
    | cons x L => simp
  · intro h1
    obtain ⟨k, hk⟩ : ∃ k, L.length = k + 1 := ⟨L.length - 1, by omega⟩
    have h2 := lgT_succ L k (by omega)
    have h3 := lgT_inv h k (by omega)
    have h4 := h L[k] (List.getElem_mem (by omega))
    rw [List.take_of_length_le (by omega)] at h2
    rw [h2]
    unfold lgStep
    split
    · simp only; omega
    · omega
theorem spans_next {l : List Int} {s : Setting} (hg : goodG s = true) {k : Nat} (hk : k + 1 < (spans l s).length) : ((spans l s)[k]'(by omega)).2 < (spans l s)[k + 1].1 :=
  List.pairwise_iff_getElem.1 (spans_sep hg) k (k + 1) (by omega) hk (by omega)
end Go.Proofs.Ytaemdldpcpefbaa
