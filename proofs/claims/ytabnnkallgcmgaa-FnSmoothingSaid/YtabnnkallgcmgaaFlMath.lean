/-
  Plain laws of weighted sums: their bound, and that equal weights give the moving sum.
-/
import Derived.Test.YtabnnkallgcmgaaWts
namespace Go.Proofs.Ytabnnkallgcmgaa
set_option linter.unusedVariables false
open Go.RowKit

/-- The sum of the sizes of the first k weights. -/
def sumS (ws : List Int) : Nat → Int
  | 0 => 0
  | k + 1 => sumS ws k + absI (ws.getD k 0)
theorem absI_bd {x : Int} (h : -100 ≤ x ∧ x ≤ 100) : 0 ≤ absI x ∧ absI x ≤ 100 := by unfold absI; omega
theorem getD0 {l : List Int} {i : Nat} (h : i < l.length) : l.getD i 0 = l[i] := by rw [List.getD_eq_getElem?_getD, List.getElem?_eq_getElem h]; rfl
theorem sumS_bd {ws : List Int} (hw : ∀ x ∈ ws, -100 ≤ x ∧ x ≤ 100) : ∀ k, k ≤ ws.length → 0 ≤ sumS ws k ∧ sumS ws k ≤ 100 * k := by
  intro k
  induction k with
  | zero => intro _; simp [sumS]
  | succ k ih =>
    intro hk
    have h1 := ih (by omega)
    have h2 := absI_bd (hw _ (List.getElem_mem (show k < ws.length by omega)))
    simp only [sumS]
    rw [getD0 (show k < ws.length by omega)]
    omega
theorem mul_size {a b : Int} (h3 : -100000 ≤ b) (h4 : b ≤ 100000) : -(100000 * absI a) ≤ a * b ∧ a * b ≤ 100000 * absI a := by
  have q : (a * b).natAbs ≤ a.natAbs * 100000 := by
    rw [Int.natAbs_mul]
    exact Nat.mul_le_mul_left _ (by omega)
  have e : absI a = (a.natAbs : Int) := by unfold absI; omega
  rw [e]
  omega
/-- No weighted sum is greater than the bound. -/
theorem wtS_size {l ws : List Int} (hs : Sm l) (i : Nat) (hi : i < l.length) (hw : ∀ x ∈ ws, -100 ≤ x ∧ x ≤ 100) : ∀ k, k ≤ ws.length → -(100000 * sumS ws k) ≤ wtS l ws i k ∧ wtS l ws i k ≤ 100000 * sumS ws k := by
  intro k
  induction k with
  | zero => intro _; simp [wtS, sumS]
  | succ k ih =>
    intro hk
    have h1 := ih (by omega)
    have h2 := absI_bd (hw _ (List.getElem_mem (show k < ws.length by omega)))
    rw [← getD0 (show k < ws.length by omega)] at h2
    simp only [wtS, sumS]
    split
    · have h3 := hs _ (List.getElem_mem (show i - k < l.length by omega))
      have h4 := mul_size (a := ws.getD k 0) h3.1 h3.2
      rw [← getD0 (show i - k < l.length by omega)] at h4
      omega
    · omega
theorem sumI_cons (x : Int) (l : List Int) : sumI (x :: l) = x + sumI l := by
  have : ∀ (l : List Int) (a : Int), l.foldl (· + ·) a = a + sumI l := by
    intro l
    induction l with
    | nil => intro a; simp [sumI]
    | cons y l ih =>
      intro a
      have h1 := ih (a + y)
      have h2 := ih (0 + y)
      simp only [sumI, List.foldl_cons] at h1 h2 ⊢
      omega
  have := this l (0 + x)
  simp only [sumI, List.foldl_cons] at this ⊢
  omega
theorem winB_step {l : List Int} {n i : Nat} (hi : i < l.length) (hn : n ≤ i) : winB l (n + 1) i = l[i - n] :: winB l n i := by
  unfold winB
  have e1 : i + 1 - (n + 1) = i - n := by omega
  have e2 : i + 1 - n = (i - n) + 1 := by omega
  rw [e1, e2]
  have e3 : i + 1 - (i - n) = (i + 1 - (i - n + 1)) + 1 := by omega
  rw [e3, List.drop_eq_getElem_cons (show i - n < l.length by omega), List.take_succ_cons]
theorem winB_full {l : List Int} {n i : Nat} (hn : i < n) : winB l (n + 1) i = winB l n i := by
  unfold winB
  have e1 : i + 1 - (n + 1) = i + 1 - n := by omega
  rw [e1]
/-- With n weights of 1 the weighted sum is the moving sum. -/
theorem wtS_ones {l : List Int} {m i : Nat} (hi : i < l.length) : ∀ k, k ≤ m → wtS l (List.replicate m 1) i k = sumI (winB l k i) := by
  intro k
  induction k with
  | zero => intro _; simp [wtS, winB, sumI]
  | succ k ih =>
    intro hk
    have h1 := ih (by omega)
    have e : (List.replicate m (1 : Int)).getD k 0 = 1 := by rw [getD0 (by rw [List.length_replicate]; omega), List.getElem_replicate]
    simp only [wtS]
    rw [e, h1]
    split
    · rename_i hki
      rw [winB_step hi hki, sumI_cons, getD0 (show i - k < l.length by omega)]
      omega
    · rename_i hki
      rw [winB_full (by omega)]
theorem goodW_ones {m : Nat} (h1 : 1 ≤ m) (h5 : m ≤ 5) : goodW (List.replicate m 1) = true := by
  rw [goodW_iff]
  refine ⟨by simp; omega, fun x hx => ?_⟩
  have := List.eq_of_mem_replicate hx
  omega
theorem wd_ones {l : List Int} {m : Nat} (hok : okMS l m = true) (h5 : m ≤ 5) : okWd l (List.replicate m 1) = true ∧ wdL l (List.replicate m 1) = msL l m := by
  obtain ⟨⟨hl, hsm⟩, h1, h2⟩ := okMS_iff.1 hok
  have hg : goodS l = true := by simp only [okMS, Bool.and_eq_true] at hok; exact hok.1
  have hk : okWd l (List.replicate m 1) = true := by unfold okWd; rw [hg, goodW_ones (by omega) h5]; rfl
  refine ⟨hk, ?_⟩
  unfold wdL msL
  rw [if_pos hk, if_pos hok]
  apply List.map_congr_left
  intro i hi
  have hi' : i < l.length := by simpa using hi
  have := wtS_ones (l := l) (m := m) hi' m (Nat.le_refl _)
  rw [List.length_replicate, this]
  rfl
/-- The bound of weights. -/
def wbV (ws : List Int) : Int := if goodW ws then 100000 * sumS ws ws.length else 0
theorem wd_size {l ws : List Int} (hk : okWd l ws = true) : ∀ x ∈ wdL l ws, absI x ≤ wbV ws := by
  have hk' := hk
  simp only [okWd, Bool.and_eq_true] at hk'
  obtain ⟨hl, hsm⟩ := goodS_iff'.1 hk'.1
  obtain ⟨⟨w1, w5⟩, hw⟩ := goodW_iff.1 hk'.2
  unfold wdL wbV
  rw [if_pos hk, if_pos hk'.2]
  intro x hx
  obtain ⟨i, hi, rfl⟩ := List.mem_map.1 hx
  have := wtS_size hsm i (by simpa using hi) hw ws.length (Nat.le_refl _)
  unfold absI
  omega
end Go.Proofs.Ytabnnkallgcmgaa
