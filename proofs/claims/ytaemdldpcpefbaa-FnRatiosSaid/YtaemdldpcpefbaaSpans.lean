/-
  Contracts of the spans that a trigger is on.
-/
import Derived.Test.YtaemdldpcpefbaaRatio2
namespace Go.Proofs.Ytaemdldpcpefbaa
set_option linter.unusedVariables false
open Go.RowKit

def enc2 (p : Int × Int) : List Value := [.int .i64 p.1, .int .i64 p.2]
theorem enc2_len (p : Int × Int) : (enc2 p).length = 2 := rfl
theorem enc2_one (p : Int × Int) : ∀ u ∈ enc2 p, u.oneCell' = true := by intro u hu; simp [enc2] at hu; rcases hu with rfl | rfl <;> rfl
theorem info2 : (Try.prog.info? 54).map (fun i => (i.zero, i.size, i.bytes)) = some (some (.agg #[.int .i64 0, .int .i64 0]), 2, 16) := by kernel_rfl

/-- The list with its last pair's second number set. -/
def setLast (l : List (Int × Int)) (q : Int) : List (Int × Int) := l.dropLast ++ (l.getLast?.map fun p => (p.1, q)).toList
theorem setLast_len (l : List (Int × Int)) (q : Int) : (setLast l q).length = l.length := by
  cases l with
  | nil => rfl
  | cons a t => simp [setLast, List.getLast?_eq_some_getLast]
theorem setLast_snoc (t : List (Int × Int)) (a : Int × Int) (q : Int) : setLast (t ++ [a]) q = t ++ [(a.1, q)] := by simp [setLast]

def goesOn (l : List Int) (s : Setting) (i : Nat) : Bool := decide (s.on * rawD l s i ≤ 10 * rawN l s i)
def goesOff (l : List Int) (s : Setting) (i : Nat) : Bool := decide (10 * rawN l s i ≤ s.off * rawD l s i)
def spStep (l : List Int) (s : Setting) (st : List (Int × Int) × Bool) (i : Nat) : List (Int × Int) × Bool :=
  if !st.2 && goesOn l s i then (st.1 ++ [((i : Int), (l.length : Int))], true)
  else if st.2 && goesOff l s i then (setLast st.1 i, false) else st
/-- The spans behind k places. -/
def spTo (l : List Int) (s : Setting) : Nat → List (Int × Int) × Bool
  | 0 => ([], false)
  | k + 1 => spStep l s (spTo l s k) (s.long.toNat - 1 + k)
/-- How many places there are. -/
def nPl (l : List Int) (s : Setting) : Nat := l.length + 1 - s.long.toNat
def spans (l : List Int) (s : Setting) : List (Int × Int) := (spTo l s (nPl l s)).1

theorem spTo_inv (l : List Int) (s : Setting) : ∀ k, (spTo l s k).1.length ≤ k ∧ ((spTo l s k).2 = true → (spTo l s k).1 ≠ []) := by
  intro k
  induction k with
  | zero => simp [spTo]
  | succ k ih =>
    simp only [spTo, spStep]
    split
    · simp; omega
    · split
      · simp [setLast_len]; omega
      · exact ⟨by omega, ih.2⟩

theorem goes_red {l : List Int} {s : Setting} (h : Sm l) (hg : goodG s = true) (p : Nat) (hp : s.long ≤ p + 1) (hl : p < l.length) :
    (s.on * ratD l s p ≤ 10 * ratN l s p ↔ goesOn l s p = true) ∧ (10 * ratN l s p ≤ s.off * ratD l s p ↔ goesOff l s p = true) := by
  obtain ⟨f1, f2, f3, f4, f5⟩ := rat_bd h hg p hp hl
  obtain ⟨r1, r2, r3, r4, _⟩ := raw_bd h hg p hp hl
  simp only [goesOn, goesOff, decide_eq_true_eq]
  generalize ratN l s p = a at *
  generalize ratD l s p = b at *
  generalize rawN l s p = n at *
  generalize rawD l s p = d at *
  constructor
  · constructor
    · intro h1
      have h2 := Int.mul_le_mul_of_nonneg_right h1 (show 0 ≤ d by omega)
      have e1 : s.on * b * d = s.on * d * b := by rw [Int.mul_assoc, Int.mul_comm b d, ← Int.mul_assoc]
      have e2 : 10 * a * d = 10 * n * b := by rw [Int.mul_assoc, f5, ← Int.mul_assoc]
      exact Int.le_of_mul_le_mul_right (by omega) f3
    · intro h1
      have h2 := Int.mul_le_mul_of_nonneg_right h1 (show 0 ≤ b by omega)
      have e1 : s.on * d * b = s.on * b * d := by rw [Int.mul_assoc, Int.mul_comm d b, ← Int.mul_assoc]
      have e2 : 10 * n * b = 10 * a * d := by rw [Int.mul_assoc, ← f5, ← Int.mul_assoc]
      exact Int.le_of_mul_le_mul_right (by omega) r3
  · constructor
    · intro h1
      have h2 := Int.mul_le_mul_of_nonneg_right h1 (show 0 ≤ d by omega)
      have e1 : s.off * b * d = s.off * d * b := by rw [Int.mul_assoc, Int.mul_comm b d, ← Int.mul_assoc]
      have e2 : 10 * a * d = 10 * n * b := by rw [Int.mul_assoc, f5, ← Int.mul_assoc]
      exact Int.le_of_mul_le_mul_right (by omega) f3
    · intro h1
      have h2 := Int.mul_le_mul_of_nonneg_right h1 (show 0 ≤ b by omega)
      have e1 : s.off * d * b = s.off * b * d := by rw [Int.mul_assoc, Int.mul_comm d b, ← Int.mul_assoc]
      have e2 : 10 * n * b = 10 * a * d := by rw [Int.mul_assoc, ← f5, ← Int.mul_assoc]
      exact Int.le_of_mul_le_mul_right (by omega) r3

/-- A row whose last pair's second number is set. -/
theorem own_setLast {w w' : World} {base g : Nat} {E : TypeId} {n c : Nat} {l : List (Int × Int)} {cs : Array Value} (h : Own enc2 2 w base E (.slice (some ⟨g, 0, none⟩) n c) l) (hn : 0 < n) (q : Int)
    (hB : Blk w g E cs) (hB' : Blk w' g E (cs.setIfInBounds ((n - 1) * 2 + 1) (.int .i64 q))) : Own enc2 2 w' base E (.slice (some ⟨g, 0, none⟩) n c) (setLast l q) := by
  obtain ⟨g', cs', e, hb, hB2, hs, hl, hnc, hm, htk⟩ := h.blk hn
  injection e with e
  injection e with e1
  subst e1
  have : cs' = cs := by
    unfold Blk at hB hB2
    rw [hB] at hB2
    injection hB2 with hB2
    injection hB2 with hB2
    exact hB2.symm
  subst this
  obtain ⟨t, a, rfl⟩ : ∃ t a, l = t ++ [a] := by
    have hne : l ≠ [] := by rintro rfl; simp at hl; omega
    exact ⟨l.dropLast, l.getLast hne, (List.dropLast_concat_getLast hne).symm⟩
  rw [setLast_snoc]
  have hcell : ∀ j x, (t ++ [a])[j]? = some x → ∀ i v, (enc2 x)[i]? = some v → cs'[j * 2 + i]? = some v := by
    intro j x hx i v hv
    have hj : j < (t ++ [a]).length := (List.getElem?_eq_some_iff.1 hx).1
    have hi : i < 2 := (List.getElem?_eq_some_iff.1 hv).1
    have h1 := flat_get enc2_len (t ++ [a]) j x hx i hi
    rw [hv, ← htk, List.getElem?_take] at h1
    split at h1
    · simpa using h1
    · cases h1
  have hlt : (t ++ [a]).length = t.length + 1 := by simp
  refine Own.over enc2_len hb hB' (by simpa using hs) (by simp; omega) hnc hm ?_
  intro j x hx i v hv
  have hi : i < 2 := (List.getElem?_eq_some_iff.1 hv).1
  rw [Array.getElem?_setIfInBounds]
  have hj : j < t.length + 1 := by have := (List.getElem?_eq_some_iff.1 hx).1; simpa using this
  have hcs2 : (n - 1) * 2 + 1 < cs'.size := by omega
  by_cases hjl : j = t.length
  · subst hjl
    have hx' : x = (a.1, q) := by simpa using hx.symm
    subst hx'
    have hn1 : n - 1 = t.length := by omega
    match i, hi with
    | 0, _ =>
      rw [if_neg (by omega)]
      have := hcell t.length a (by simp) 0 (.int .i64 a.1) rfl
      simp [enc2] at hv
      rw [← hv]; exact this
    | 1, _ =>
      rw [if_pos (by omega), if_pos hcs2]
      simpa [enc2] using hv
  · rw [if_neg (by omega)]
    refine hcell j x ?_ i v hv
    rw [List.getElem?_append_left (by omega)] at hx ⊢
    exact hx

end Go.Proofs.Ytaemdldpcpefbaa
