/-
  Plain laws of pairs of picks.
-/
import Derived.Test.YtiakaglgfboepaaPickV
namespace Go.Proofs.Ytiakaglgfboepaa
set_option linter.unusedVariables false
open Go.RowKit

def okW (l : List Pick) (st wv : Int) (p : Pick) : Bool := p.station == st && p.wave == wv && curP l p.id
def ltW (p s : Pick) : Bool := decide (p.tick + p.err < s.tick - s.err)
def rowP (M : List Pick) (p : Pick) : List (Int × Int) := (M.filter (ltW p)).map fun s => (p.id, s.id)
def tabP (F M : List Pick) : List (Int × Int) := F.flatMap (rowP M)
def prP (l : List Pick) (st : Int) : List (Int × Int) := tabP (l.filter (okW l st 0)) (l.filter (okW l st 1))
def okPr (l : List Pick) (st : Int) : Bool := picksS l && inB st 1 99
def prL (l : List Pick) (st : Int) : List (Int × Int) := if okPr l st then prP l st else []
theorem rowP_len (M : List Pick) (p : Pick) : (rowP M p).length ≤ M.length := by unfold rowP; rw [List.length_map]; exact List.length_filter_le _ _
theorem tabP_len (F M : List Pick) : (tabP F M).length ≤ F.length * M.length := by
  induction F with
  | nil => simp [tabP]
  | cons p F ih =>
    simp only [tabP, List.flatMap_cons, List.length_append, List.length_cons, Nat.add_mul, Nat.one_mul] at ih ⊢
    have := rowP_len M p
    omega
theorem tabP_succ (F M : List Pick) (k : Nat) (hk : k < F.length) : tabP (F.take (k + 1)) M = tabP (F.take k) M ++ rowP M F[k] := by
  unfold tabP
  rw [List.take_succ_eq_append_getElem hk, List.flatMap_append]; simp
theorem rowP_succ (M : List Pick) (p : Pick) (k : Nat) (hk : k < M.length) : rowP (M.take (k + 1)) p = rowP (M.take k) p ++ (if ltW p M[k] = true then [(p.id, M[k].id)] else []) := by
  unfold rowP
  rw [List.take_succ_eq_append_getElem hk, List.filter_append, List.map_append]
  congr 1
  by_cases h : ltW p M[k] = true
  · simp [h]
  · simp [h]
/-- The reference's rounds. -/
def sTab (l : List Pick) (st : Int) (k : Nat) : List (Int × Int) := tabP ((l.take k).filter (okW l st 0)) (l.filter (okW l st 1))
def sRow (l : List Pick) (st : Int) (p : Pick) (k : Nat) : List (Int × Int) := if okW l st 0 p = true then rowP ((l.take k).filter (okW l st 1)) p else []
theorem sTab_succ (l : List Pick) (st : Int) (k : Nat) (hk : k < l.length) : sTab l st (k + 1) = sTab l st k ++ sRow l st l[k] l.length := by
  unfold sTab sRow
  rw [List.take_succ_eq_append_getElem hk, List.filter_append, List.take_length]
  unfold tabP
  rw [List.flatMap_append]
  congr 1
  by_cases h : okW l st 0 l[k] = true
  · simp [h]
  · simp [h]
theorem sRow_succ (l : List Pick) (st : Int) (p : Pick) (k : Nat) (hk : k < l.length) : sRow l st p (k + 1) = sRow l st p k ++ (if (okW l st 0 p && okW l st 1 l[k] && ltW p l[k]) = true then [(p.id, l[k].id)] else []) := by
  unfold sRow
  by_cases h0 : okW l st 0 p = true
  · rw [if_pos h0, if_pos h0, h0]
    unfold rowP
    rw [List.take_succ_eq_append_getElem hk, List.filter_append, List.filter_append, List.map_append]
    congr 1
    by_cases h1 : okW l st 1 l[k] = true
    · by_cases h2 : ltW p l[k] = true
      · simp [h1, h2]
      · simp [h1, h2]
    · simp [h1]
  · rw [if_neg h0, if_neg h0]
    simp [h0]
theorem sTab_all (l : List Pick) (st : Int) : sTab l st l.length = prP l st := by unfold sTab prP; rw [List.take_length]
theorem sTab_zero (l : List Pick) (st : Int) : sTab l st 0 = [] := by simp [sTab, tabP]
theorem sRow_zero (l : List Pick) (st : Int) (p : Pick) : sRow l st p 0 = [] := by unfold sRow; split <;> simp [rowP]
theorem sTab_len {l : List Pick} (h : l.length ≤ 12) (st : Int) (k : Nat) : (sTab l st k).length ≤ 144 := by
  have h1 := tabP_len ((l.take k).filter (okW l st 0)) (l.filter (okW l st 1))
  have h2 := List.length_filter_le (okW l st 0) (l.take k)
  have h3 := List.length_filter_le (okW l st 1) l
  have h4 : (l.take k).length ≤ l.length := by simp; omega
  have h5 := Nat.mul_le_mul (show ((l.take k).filter (okW l st 0)).length ≤ 12 by omega) (show (l.filter (okW l st 1)).length ≤ 12 by omega)
  unfold sTab
  omega
theorem sRow_len {l : List Pick} (h : l.length ≤ 12) (st : Int) (p : Pick) (k : Nat) : (sRow l st p k).length ≤ 12 := by
  unfold sRow
  split
  · have h1 := rowP_len ((l.take k).filter (okW l st 1)) p
    have h2 := List.length_filter_le (okW l st 1) (l.take k)
    have h4 : (l.take k).length ≤ l.length := by simp; omega
    omega
  · simp
theorem prL_len {l : List Pick} {st : Int} : (prL l st).length ≤ 1048576 := by
  unfold prL
  split
  · rename_i h
    simp only [okPr, Bool.and_eq_true] at h
    have := sTab_len (picksS_iff h.1).2.1 st l.length
    rw [sTab_all] at this
    omega
  · simp

end Go.Proofs.Ytiakaglgfboepaa
