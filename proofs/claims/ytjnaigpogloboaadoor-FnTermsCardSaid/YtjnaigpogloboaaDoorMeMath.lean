/-
  Plain laws of the magnitude in the middle, of residuals and of new terms.
-/
import Derived.Test.YtjnaigpogloboaaDoorMgMath
import Derived.Test.YtjnaigpogloboaaDoorAreSw
import Derived.Test.YtjnaigpogloboaaDoorSortI
namespace Go.Proofs.YtjnaigpogloboaaDoor
set_option linter.unusedVariables false
open Go.RowKit

theorem goodWs_all {l : List Swing} (h : goodWs l = true) : l.length ≤ 10 ∧ ∀ s ∈ l, goodW s = true := by
  simp only [goodWs, Bool.and_eq_true, decide_eq_true_eq] at h
  exact ⟨by omega, fun s hs => chk_mem h.1 hs⟩
def askMM (t : List TableRow) (l : List Swing) : Bool := goodT t && goodWs l
def hasMM (t : List TableRow) (l : List Swing) : Bool := askMM t l && decide (0 < (magsL t l).length)
def midM (t : List TableRow) (l : List Swing) : Int := if askMM t l then midL (sortL idZ (magsL t l)) else 0
def resL (t : List TableRow) (l : List Swing) : List Int := if hasMM t l then (magsL t l).map (fun x => x - midM t l) else []
def newS (t : List TableRow) (mid : Int) (s : Swing) : Swing := if bonOk t s.far then ⟨s.station, s.far, s.width, max (-50) (min 50 (s.term - (magV t s - mid)))⟩ else s
def newL (t : List TableRow) (l : List Swing) : List Swing := if hasMM t l then l.map (newS t (midM t l)) else []
theorem askMM_iff {t : List TableRow} {l : List Swing} (h : askMM t l = true) : goodT t = true ∧ goodWs l = true ∧ l.length ≤ 10 ∧ ∀ s ∈ l, goodW s = true := by
  simp only [askMM, Bool.and_eq_true] at h
  exact ⟨h.1, h.2, goodWs_all h.2⟩
theorem hasMM_iff {t : List TableRow} {l : List Swing} (h : hasMM t l = true) : askMM t l = true ∧ 0 < (magsL t l).length := by
  simpa only [hasMM, Bool.and_eq_true, decide_eq_true_eq] using h
theorem resL_len {t : List TableRow} {l : List Swing} : (resL t l).length ≤ 1048576 := by
  unfold resL
  split
  · rename_i h
    have := (askMM_iff (hasMM_iff h).1).2.2.1
    have := magsL_len t l
    rw [List.length_map]; omega
  · simp
theorem newL_len {t : List TableRow} {l : List Swing} : (newL t l).length ≤ 1048576 := by
  unfold newL
  split
  · rename_i h
    have := (askMM_iff (hasMM_iff h).1).2.2.1
    rw [List.length_map]; omega
  · simp
theorem sortM_bd {t : List TableRow} {l : List Swing} (h : askMM t l = true) : ∀ x ∈ sortL idZ (magsL t l), -50 ≤ x ∧ x ≤ 1250 := fun x hx =>
  magsL_bd (askMM_iff h).1 (askMM_iff h).2.2.2 x ((sortL_mem idZ).1 hx)
theorem midM_bd (t : List TableRow) (l : List Swing) : -50 ≤ midM t l ∧ midM t l ≤ 1250 := by
  unfold midM
  split
  · rename_i h
    exact midL_bd (by omega) (sortM_bd h)
  · omega
/-- Some residual is 0. -/
theorem resL_zero {t : List TableRow} {l : List Swing} (h : hasMM t l = true) : (resL t l).any (· == 0) = true := by
  obtain ⟨h1, h2⟩ := hasMM_iff h
  unfold resL
  rw [if_pos h, List.any_eq_true]
  refine ⟨0, List.mem_map.2 ⟨midM t l, ?_, by omega⟩, by simp⟩
  unfold midM
  rw [if_pos h1, ← sortL_mem idZ]
  exact midL_mem (by rw [sortL_len]; exact h2)
def leZ (x : Int) : Bool := decide (x ≤ 0)
/-- Half of them are at most 0. -/
theorem resL_half {t : List TableRow} {l : List Swing} (h : hasMM t l = true) : (resL t l).length ≤ 2 * (resL t l).countP leZ := by
  obtain ⟨h1, h2⟩ := hasMM_iff h
  have e : resL t l = (magsL t l).map (fun x => x - midL (sortL idZ (magsL t l))) := by unfold resL midM; rw [if_pos h, if_pos h1]
  rw [e, List.countP_map, List.length_map]
  have hp := (sortL_perm idZ (magsL t l))
  rw [← List.Perm.countP_eq _ hp]
  have hs := sortL_sorted idZ (magsL t l)
  have hl := sortL_len idZ (magsL t l)
  generalize sortL idZ (magsL t l) = S at *
  rw [← hl] at h2 ⊢
  have hj : (S.length - 1) / 2 < S.length := by omega
  have hm : midL S = S[(S.length - 1) / 2] := by unfold midL; rw [List.getD_eq_getElem?_getD, List.getElem?_eq_getElem hj]; rfl
  have hall : ∀ x ∈ S.take ((S.length - 1) / 2 + 1), (leZ ∘ fun x => x - midL S) x = true := by
    intro x hx
    obtain ⟨i, hi, rfl⟩ := List.mem_iff_getElem.1 hx
    rw [List.length_take] at hi
    rw [List.getElem_take]
    simp only [Function.comp, leZ, decide_eq_true_eq]
    rw [hm]
    rcases Nat.lt_or_ge i ((S.length - 1) / 2) with c | c
    · have := List.pairwise_iff_getElem.1 hs i ((S.length - 1) / 2) (by omega) hj c
      simp only [idZ] at this
      omega
    · obtain rfl : i = (S.length - 1) / 2 := by omega
      omega
  have h3 := (List.take_sublist ((S.length - 1) / 2 + 1) S).countP_le (p := leZ ∘ fun x => x - midL S)
  rw [List.countP_eq_length.2 hall, List.length_take] at h3
  omega
theorem countP_take {p : Int → Bool} (o : List Int) (k : Nat) (hk : k < o.length) : (o.take (k + 1)).countP p = (o.take k).countP p + (if p o[k] then 1 else 0) := by
  rw [List.take_succ_eq_append_getElem hk, List.countP_append, List.countP_singleton]
/-- With its new term no swing is farther from the middle. -/
theorem newS_near {t : List TableRow} {mid : Int} {s : Swing} (hk : bonOk t s.far = true) (hs : goodW s = true) :
    (magV t (newS t mid s) - mid) * (magV t (newS t mid s) - mid) ≤ (magV t s - mid) * (magV t s - mid) := by
  have hw := goodW_iff.1 hs
  have e : magV t (newS t mid s) = magV t s - s.term + max (-50) (min 50 (s.term - (magV t s - mid))) := by
    unfold newS
    rw [if_pos hk]
    unfold magV
    simp only
    omega
  rw [e]
  generalize magV t s = a at *
  generalize s.term = d at *
  obtain ⟨u, hu⟩ : ∃ u, a - d + max (-50) (min 50 (d - (a - mid))) - mid = u := ⟨_, rfl⟩
  rw [hu]
  have hn : u.natAbs ≤ (a - mid).natAbs := by omega
  have := Nat.mul_le_mul hn hn
  rw [← Int.natAbs_mul, ← Int.natAbs_mul] at this
  have h1 : ((u * u).natAbs : Int) = u * u := by rw [Int.natAbs_mul]; exact Int.natAbs_mul_self
  have h2 : (((a - mid) * (a - mid)).natAbs : Int) = (a - mid) * (a - mid) := by rw [Int.natAbs_mul]; exact Int.natAbs_mul_self
  omega
theorem newS_good {t : List TableRow} {mid : Int} {s : Swing} (hs : goodW s = true) : goodW (newS t mid s) = true := by
  unfold newS
  split
  · have := goodW_iff.1 hs
    exact goodW_iff.2 ⟨this.1, this.2.1, this.2.2.1, by simp only; omega⟩
  · exact hs
theorem newS_far {t : List TableRow} {mid : Int} {s : Swing} : (newS t mid s).far = s.far ∧ (newS t mid s).station = s.station := by
  unfold newS
  split <;> exact ⟨rfl, rfl⟩
theorem newL_good {t : List TableRow} {l : List Swing} (h : hasMM t l = true) : goodWs (newL t l) = true := by
  obtain ⟨g1, g2, g3, g4⟩ := askMM_iff (hasMM_iff h).1
  unfold newL
  rw [if_pos h]
  simp only [goodWs, Bool.and_eq_true, decide_eq_true_eq, List.length_map] at g2 ⊢
  refine ⟨?_, g2.2⟩
  have hc := g2.1
  unfold chk at hc ⊢
  rw [List.all_eq_true] at hc ⊢
  intro k hk
  simp only [List.length_map, List.mem_range] at hk
  have := hc k (by simpa using hk)
  cases k with
  | zero =>
    rw [okAt_zero (by simpa using hk)]
    rw [okAt_zero hk] at this
    rw [List.getElem_map]
    exact newS_good this
  | succ k =>
    rw [okAt_succ (by simpa using hk)]
    rw [okAt_succ hk, Bool.and_eq_true] at this
    rw [List.getElem_map, List.getElem_map, Bool.and_eq_true]
    refine ⟨newS_good this.1, ?_⟩
    unfold ltS at this ⊢
    rw [newS_far.2, newS_far.2]
    exact this.2
end Go.Proofs.YtjnaigpogloboaaDoor
